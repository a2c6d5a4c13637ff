/- The library's stable sort at windows: merging; told over any program that holds the bodies. -/
import Derived.Shelf.GgSortFunc.LotD
import Derived.Test.YtdneffnnpjgnbabRotate
import Derived.Test.YtdneffnnpjgnbabSymOne
import Derived.Test.YtdneffnnpjgnbabSymLast
namespace Go.Proofs.Ytdneffnnpjgnbab
open Go.RowKit Go.Lib Go.Sort Go.Shelf
variable {P : Program} {α : Type} [Inhabited α]

theorem glue_right {lt : α → α → Bool} {a mid lo hi : Nat} {d d' : Array α} (h : PermIn a mid d d') (g : SortedIn lt lo hi d) (hlo : mid ≤ lo) : SortedIn lt lo hi d' := sorted_eq g fun i h1 h2 => h.2.1 i (.inr (by omega))

/-- what a call of symMerge does, at ranges of at most N -/
def MergeC (P : Program) (enc : α → List Value) (cf : α → α → Int) (k g : Nat) (cb : Array Value) (blk off cap : Nat) (d0 : Array α) (w0 : World) (N : Nat) : Prop :=
  ∀ (a m b : Nat) (d : Array α) (w : World), b - a ≤ N → d0.size = d.size → SWK enc k w0 blk off d w → a < m → m < b → b ≤ d.size → SortedIn (ltOf cf) a m d → SortedIn (ltOf cf) m b d →
    Calls P 48 #[.slice (some ⟨blk, off, none⟩) d.size cap, .int .i64 a, .int .i64 m, .int .i64 b, .func (.func g) #[] cb] w fun e w' => e = .returned (.tuple #[]) ∧ ∃ d', Merged (ltOf cf) a b d d' ∧ SWK enc k w0 blk off d' w'

set_option maxHeartbeats 16000000 in
set_option maxRecDepth 1000000 in
theorem symMerge_mid {k : Nat} (T : TyW P k) (hF : P.funcs[48]? = some Try.f48)
    (hF1 : P.funcs[49]? = some Try.f49) (hF2 : P.funcs[50]? = some Try.f50)
    (enc : α → List Value) (cf : α → α → Int) (hS : SWO (ltOf cf)) (g : Nat) (cb : Array Value) (blk off cap a m b : Nat) (d0 d : Array α) (w0 w : World)
    (eg : ∀ args w, (callFunc g args).run P w = .ok (.enter g args) w) (hcmp : CmpLays P g cb enc k cf blk off d0.size w0)
    (R : RowK enc k w0 blk off d0) (hs : d0.size = d.size) (S : SWK enc k w0 blk off d w) (ham : a < m) (hmb : m < b) (hn1 : m ≠ a + 1) (hn2 : b ≠ m + 1) (h2 : b ≤ d.size) (hsz : d.size < 4611686018427387904) (hA : SortedIn (ltOf cf) a m d) (hB : SortedIn (ltOf cf) m b d)
    (N : Nat) (hN : b - a ≤ N + 1) (ih : MergeC P enc cf k g cb blk off cap d0 w0 N) :
    Calls P 48 #[.slice (some ⟨blk, off, none⟩) d.size cap, .int .i64 a, .int .i64 m, .int .i64 b, .func (.func g) #[] cb] w fun e w' => e = .returned (.tuple #[]) ∧ ∃ d', Merged (ltOf cf) a b d d' ∧ SWK enc k w0 blk off d' w' := by
  have T0 : Hid (TyW P k) := T
  obtain ⟨mixed, t0, a0, z0, v0, t3, a3, z3, v3, t4, a4, z4, v4, tS, aS, zS, vS, tF, aF, zF, vF, tU, aU, zU, vU, aE, zE⟩ := T
  have S0 : Aside (SWK enc k w0 blk off d w) := S
  have HC : Aside _ := hcmp
  have HAB : Aside (SortedIn (ltOf cf) a m d ∧ SortedIn (ltOf cf) m b d) := ⟨hA, hB⟩
  have IH : Aside _ := ih
  clear S hcmp hA hB ih
  have er : ∀ args w, (callFunc 49 args).run P w = .ok (.enter 49 args) w := enters_of hF1 (by kernel_rfl) rfl
  have es : ∀ args w, (callFunc 48 args).run P w = .ok (.enter 48 args) w := enters_of hF (by kernel_rfl) rfl
  have e0 : ((m : Int) - (a : Int) == 1) = false := by rw [beq_eq_false_iff_ne]; omega
  have e1 : ((b : Int) - (m : Int) == 1) = false := by rw [beq_eq_false_iff_ne]; omega
  have hn1' : a + 2 ≤ m := by omega
  have hn2' : m + 2 ≤ b := by omega
  clear hn1 hn2
  obtain ⟨mid, hmid⟩ : ∃ mid, mid = (a + b) / 2 := ⟨_, rfl⟩
  have emid : ((a : Int) + (b : Int)) / 2 = (mid : Int) := by omega
  have hmid1 : 2 * mid ≤ a + b := by omega
  have hmid2 : a + b ≤ 2 * mid + 1 := by omega
  clear hmid
  by_cases hm : mid < m
  · have hmz : (mid : Int) < (m : Int) := by omega
    go_enter hF, Try.ntmps48
    go_wp2
    go_loopg [20, 21] (b - a) (fun kx s20 s21 wr => ∃ (i j : Nat), s20 = .int .i64 i ∧ s21 = .int .i64 j ∧ (mid + m - b) ≤ i ∧ i ≤ j ∧ j ≤ mid ∧ j - i ≤ kx ∧ Aside (SWK enc k w0 blk off d wr) ∧
      Aside (i = (mid + m - b) ∨ ltOf cf d[mid + m - i]! d[i - 1]! = false) ∧ Aside (j = mid ∨ ltOf cf d[mid + m - 1 - j]! d[j]! = true))
    case atStart => exact ⟨(mid + m - b), mid, by first | rfl | (congr 1; omega), rfl, Nat.le_refl _, by omega, Nat.le_refl _, by omega, S0, (show Aside ((mid + m - b) = (mid + m - b) ∨ _) from .inl rfl), (show Aside (mid = mid ∨ _) from .inl rfl)⟩
    case round =>
      clear S0
      obtain ⟨i, j, rfl, rfl, hai, hij, hjm, hkx, S1, I, J⟩ := hrel
      by_cases hlt : i < j
      · have hltz : (i : Int) < (j : Int) := by omega
        obtain ⟨h, hh⟩ : ∃ h, h = (i + j) / 2 := ⟨_, rfl⟩
        have eh : ((i : Int) + (j : Int)) / 2 = (h : Int) := by omega
        have hih : i ≤ h := by omega
        have hhj : h < j := by omega
        clear hh
        have pz : (h : Int) ≤ (mid : Int) + (m : Int) - 1 := by omega
        cases hL : ltOf cf d[mid + m - 1 - h]! d[h]! with
        | false =>
          have ea24 : ((mid : Int) + (m : Int) - 1 - (h : Int)).toNat = mid + m - 1 - h := by omega
          have pa24 : (0 : Int) ≤ (mid : Int) + (m : Int) - 1 - (h : Int) := by omega
          have ba24 : (mid : Int) + (m : Int) - 1 - (h : Int) < (d.size : Int) := by omega
          have ra24 : IntKind.i64.wrap ((mid : Int) + (m : Int) - 1 - (h : Int)) = (mid : Int) + (m : Int) - 1 - (h : Int) := by rw [IntKind.wrap_i64]; omega
          have ec24 : ((h : Int)).toNat = h := by omega
          have pc24 : (0 : Int) ≤ (h : Int) := by omega
          have bc24 : (h : Int) < (d.size : Int) := by omega
          have rc24 : IntKind.i64.wrap ((h : Int)) = (h : Int) := by rw [IntKind.wrap_i64]; omega
          obtain ⟨x24, hx24⟩ : ∃ x, x = d[mid + m - 1 - h]! := ⟨_, rfl⟩
          obtain ⟨y24, hy24⟩ : ∃ x, x = d[h]! := ⟨_, rfl⟩
          have l24a := S1.out.ld R (by omega) P (mid + m - 1 - h) (by omega)
          have l24b := S1.out.ld R (by omega) P (h) (by omega)
          rw [← hx24] at l24a
          rw [← hy24] at l24b
          have hc24 := S1.out.cmp HC.out (by omega) x24 y24
          have hv24 : ¬ cf x24 y24 < 0 := by rw [hx24, hy24]; exact of_decide_eq_false hL
          have hd24 : decide (cf x24 y24 < 0) = false := decide_eq_false hv24
          clear hx24 hy24
          go_wp2_with fail
          go_quiet_grown (first | (go_at_fn g; refine Calls.grown_of (hc24 _ _)))
          have S2 : Aside (SWK enc k w0 blk off d (grow (wr.drewN nq) osq)) := S1.out.grown nq osq
          clear l24a l24b hc24 S1
          generalize grow (wr.drewN nq) osq = w2 at S2 ⊢
          clear nq osq
          go_wp2
          go_roundg (j - (h + 1))
          case measure => omega
          case rel => exact ⟨h + 1, j, by go_num, rfl, by omega, by omega, hjm, Nat.le_refl _, S2, (show Aside (h + 1 = (mid + m - b) ∨ ltOf cf d[mid + m - (h + 1)]! d[h + 1 - 1]! = false) from .inr (by rw [show mid + m - (h + 1) = mid + m - 1 - h by omega]; exact hL)), J⟩
        | true =>
          have ea25 : ((mid : Int) + (m : Int) - 1 - (h : Int)).toNat = mid + m - 1 - h := by omega
          have pa25 : (0 : Int) ≤ (mid : Int) + (m : Int) - 1 - (h : Int) := by omega
          have ba25 : (mid : Int) + (m : Int) - 1 - (h : Int) < (d.size : Int) := by omega
          have ra25 : IntKind.i64.wrap ((mid : Int) + (m : Int) - 1 - (h : Int)) = (mid : Int) + (m : Int) - 1 - (h : Int) := by rw [IntKind.wrap_i64]; omega
          have ec25 : ((h : Int)).toNat = h := by omega
          have pc25 : (0 : Int) ≤ (h : Int) := by omega
          have bc25 : (h : Int) < (d.size : Int) := by omega
          have rc25 : IntKind.i64.wrap ((h : Int)) = (h : Int) := by rw [IntKind.wrap_i64]; omega
          obtain ⟨x25, hx25⟩ : ∃ x, x = d[mid + m - 1 - h]! := ⟨_, rfl⟩
          obtain ⟨y25, hy25⟩ : ∃ x, x = d[h]! := ⟨_, rfl⟩
          have l25a := S1.out.ld R (by omega) P (mid + m - 1 - h) (by omega)
          have l25b := S1.out.ld R (by omega) P (h) (by omega)
          rw [← hx25] at l25a
          rw [← hy25] at l25b
          have hc25 := S1.out.cmp HC.out (by omega) x25 y25
          have hv25 :  cf x25 y25 < 0 := by rw [hx25, hy25]; exact of_decide_eq_true hL
          have hd25 : decide (cf x25 y25 < 0) = true := decide_eq_true hv25
          clear hx25 hy25
          go_wp2_with fail
          go_quiet_grown (first | (go_at_fn g; refine Calls.grown_of (hc25 _ _)))
          have S2 : Aside (SWK enc k w0 blk off d (grow (wr.drewN nq) osq)) := S1.out.grown nq osq
          clear l25a l25b hc25 S1
          generalize grow (wr.drewN nq) osq = w2 at S2 ⊢
          clear nq osq
          go_wp2
          go_roundg (h - i)
          case measure => omega
          case rel => exact ⟨i, h, rfl, rfl, hai, by omega, by omega, Nat.le_refl _, S2, I, (show Aside (h = mid ∨ _) from .inr hL)⟩
      · have hltz : ¬ (i : Int) < (j : Int) := by omega
        obtain rfl : j = i := by omega
        obtain ⟨e, he⟩ : ∃ e, e = mid + m - j := ⟨_, rfl⟩
        have ee : (mid : Int) + (m : Int) - (j : Int) = (e : Int) := by omega
        have haj : a ≤ j := by omega
        have hjm2 : j ≤ m := by omega
        have hme : m ≤ e := by omega
        have heb : e ≤ b := by omega
        have hjd : j ≤ mid := by omega
        have hemid : j + (e - m) = mid := by omega
        have c1 : Aside (j = a ∨ e = b ∨ ltOf cf d[e]! d[j - 1]! = false) := by
          rcases I.out with c | c
          · exact .inr (.inl (by omega))
          · exact .inr (.inr (by rw [he]; exact c))
        have c2 : Aside (j = m ∨ e = m ∨ ltOf cf d[j]! d[e - 1]! = false) := by
          rcases J.out with c | c
          · exact .inr (.inl (by omega))
          · exact .inr (.inr (by rw [show e - 1 = mid + m - 1 - j by omega]; exact hS.asymmA c))
        have GL : Aside (∀ d1, Rot j m e d d1 → _) := fun d1 hr => rot_glue hS HAB.out.1 HAB.out.2 haj hjm2 hme heb hr c1.out c2.out
        have FIN : Aside (∀ d1 d2 d3, Rot j m e d d1 → Merged (ltOf cf) a mid d1 d2 → Merged (ltOf cf) mid b d2 d3 → Merged (ltOf cf) a b d d3) := fun d1 d2 d3 hr m2 m3 => merged_of hS h2 HAB.out.1 HAB.out.2 haj hjm2 hme heb hemid hr c1.out c2.out (fun _ _ => m2) (fun _ _ => m3)
        clear I J HAB c1 c2 hkx hij hai hjm
        rw [hemid] at GL
        have HE : Hid (e = mid + m - j) := he
        clear he
        by_cases hB : j < mid
        · have hB0 : (j : Int) < (mid : Int) := by omega
          have hB1 : (m : Int) < (e : Int) := by omega
          by_cases hC : j < m
          · have hC0 : (j : Int) < (m : Int) := by omega
            have hC1 : (mid : Int) < (e : Int) := by omega
            by_cases hA : a < j
            · have hA0 : (a : Int) < (j : Int) := by omega
              by_cases hD : e < b
              · have hD0 : (e : Int) < (b : Int) := by omega
                have hrot := rotate_g T0.out hF1 hF2 enc g cb blk off cap j m e d0 d w0 wr R hs S1.out (by omega) (by omega) (by omega) hsz
                clear S1
                go_wp2_with (go_at_fn 49; refine hrot.mono ?_; rintro ee1 w1 ⟨rfl, d1, hr1, S3⟩)
                have HR : Aside (Rot j m e d d1) := hr1
                have hd1 : d1.size = d.size := hr1.size
                have S2 : Aside (SWK enc k w0 blk off d1 w1) := S3
                clear hr1 S3
                obtain ⟨g1, g2, g3, g4, g5⟩ := GL.out d1 HR.out
                have hl := IH.out a j mid d1 w1 (by omega) (by omega) S2.out (by omega) (by omega) (by omega) g1 g2
                rw [hd1] at hl
                have G34 : Aside (SortedIn (ltOf cf) mid e d1 ∧ SortedIn (ltOf cf) e b d1) := ⟨g3, g4⟩
                clear S2 g1 g2 g3 g4 g5
                go_wp2_with (go_at_fn_of 48 (Value.int .i64 (j : Int)); refine hl.mono ?_; rintro ee2 w2 ⟨rfl, d2, hm2, S4⟩)
                have HM : Aside (Merged (ltOf cf) a mid d1 d2) := hm2
                have hd2 : d2.size = d.size := hm2.perm.1.trans hd1
                have g3 := glue_right hm2.perm G34.out.1 (Nat.le_refl _)
                have g4 := glue_right hm2.perm G34.out.2 (by omega)
                have S5 : Aside (SWK enc k w0 blk off d2 w2) := S4
                clear hm2 S4 G34
                have hl2 := IH.out mid e b d2 w2 (by omega) (by omega) S5.out (by omega) (by omega) (by omega) g3 g4
                rw [hd2] at hl2
                clear S5 g3 g4
                go_wp2_with (go_at_fn 48; refine hl2.mono ?_; rintro ee3 w3 ⟨rfl, d3, hm3, S6⟩)
                go_end0
                exact ⟨rfl, d3, FIN.out d1 d2 d3 HR.out HM.out hm3, S6⟩
              · have hD0 : ¬ (e : Int) < (b : Int) := by omega
                have hrot := rotate_g T0.out hF1 hF2 enc g cb blk off cap j m e d0 d w0 wr R hs S1.out (by omega) (by omega) (by omega) hsz
                clear S1
                go_wp2_with (go_at_fn 49; refine hrot.mono ?_; rintro ee1 w1 ⟨rfl, d1, hr1, S3⟩)
                have HR : Aside (Rot j m e d d1) := hr1
                have hd1 : d1.size = d.size := hr1.size
                have S2 : Aside (SWK enc k w0 blk off d1 w1) := S3
                clear hr1 S3
                obtain ⟨g1, g2, g3, g4, g5⟩ := GL.out d1 HR.out
                have hl := IH.out a j mid d1 w1 (by omega) (by omega) S2.out (by omega) (by omega) (by omega) g1 g2
                rw [hd1] at hl
                have G34 : Aside (SortedIn (ltOf cf) mid e d1 ∧ SortedIn (ltOf cf) e b d1) := ⟨g3, g4⟩
                clear S2 g1 g2 g3 g4 g5
                go_wp2_with (go_at_fn_of 48 (Value.int .i64 (j : Int)); refine hl.mono ?_; rintro ee2 w2 ⟨rfl, d2, hm2, S4⟩)
                have HM : Aside (Merged (ltOf cf) a mid d1 d2) := hm2
                have hd2 : d2.size = d.size := hm2.perm.1.trans hd1
                have g3 := glue_right hm2.perm G34.out.1 (Nat.le_refl _)
                have g4 := glue_right hm2.perm G34.out.2 (by omega)
                have S5 : Aside (SWK enc k w0 blk off d2 w2) := S4
                clear hm2 S4 G34
                have HM3 : Aside (Merged (ltOf cf) mid b d2 d2) := merged_trivial_l (s := e) (by omega) (by omega) heb g3 g4
                clear g3 g4
                go_wp2
                go_end0
                exact ⟨rfl, d2, FIN.out d1 d2 d2 HR.out HM.out HM3.out, S5.out⟩
            · have hA0 : ¬ (a : Int) < (j : Int) := by omega
              by_cases hD : e < b
              · have hD0 : (e : Int) < (b : Int) := by omega
                have hrot := rotate_g T0.out hF1 hF2 enc g cb blk off cap j m e d0 d w0 wr R hs S1.out (by omega) (by omega) (by omega) hsz
                clear S1
                go_wp2_with (go_at_fn 49; refine hrot.mono ?_; rintro ee1 w1 ⟨rfl, d1, hr1, S3⟩)
                have HR : Aside (Rot j m e d d1) := hr1
                have hd1 : d1.size = d.size := hr1.size
                have S2 : Aside (SWK enc k w0 blk off d1 w1) := S3
                clear hr1 S3
                obtain ⟨g1, g2, g3, g4, g5⟩ := GL.out d1 HR.out
                have HM : Aside (Merged (ltOf cf) a mid d1 d1) := merged_trivial_l (s := j) (by omega) haj hjd g1 g2
                have hd2 : d1.size = d.size := hd1
                clear g1 g2 g5
                have hl2 := IH.out mid e b d1 w1 (by omega) (by omega) S2.out (by omega) (by omega) (by omega) g3 g4
                rw [hd2] at hl2
                clear S2 g3 g4
                go_wp2_with (go_at_fn 48; refine hl2.mono ?_; rintro ee3 w3 ⟨rfl, d3, hm3, S6⟩)
                go_end0
                exact ⟨rfl, d3, FIN.out d1 d1 d3 HR.out HM.out hm3, S6⟩
              · have hD0 : ¬ (e : Int) < (b : Int) := by omega
                have hrot := rotate_g T0.out hF1 hF2 enc g cb blk off cap j m e d0 d w0 wr R hs S1.out (by omega) (by omega) (by omega) hsz
                clear S1
                go_wp2_with (go_at_fn 49; refine hrot.mono ?_; rintro ee1 w1 ⟨rfl, d1, hr1, S3⟩)
                have HR : Aside (Rot j m e d d1) := hr1
                have hd1 : d1.size = d.size := hr1.size
                have S2 : Aside (SWK enc k w0 blk off d1 w1) := S3
                clear hr1 S3
                obtain ⟨g1, g2, g3, g4, g5⟩ := GL.out d1 HR.out
                have HM : Aside (Merged (ltOf cf) a mid d1 d1) := merged_trivial_l (s := j) (by omega) haj hjd g1 g2
                have hd2 : d1.size = d.size := hd1
                clear g1 g2 g5
                have HM3 : Aside (Merged (ltOf cf) mid b d1 d1) := merged_trivial_l (s := e) (by omega) (by omega) heb g3 g4
                clear g3 g4
                go_wp2
                go_end0
                exact ⟨rfl, d1, FIN.out d1 d1 d1 HR.out HM.out HM3.out, S2.out⟩
          · have hC0 : ¬ (j : Int) < (m : Int) := by omega
            have hC1 : ¬ (mid : Int) < (e : Int) := by omega
            by_cases hA : a < j
            · have hA0 : (a : Int) < (j : Int) := by omega
              by_cases hD : e < b
              · have hD0 : (e : Int) < (b : Int) := by omega
                exfalso; omega
              · have hD0 : ¬ (e : Int) < (b : Int) := by omega
                exfalso; omega
            · have hA0 : ¬ (a : Int) < (j : Int) := by omega
              by_cases hD : e < b
              · have hD0 : (e : Int) < (b : Int) := by omega
                exfalso; omega
              · have hD0 : ¬ (e : Int) < (b : Int) := by omega
                exfalso; omega
        · have hB0 : ¬ (j : Int) < (mid : Int) := by omega
          have hB1 : ¬ (m : Int) < (e : Int) := by omega
          by_cases hC : j < m
          · have hC0 : (j : Int) < (m : Int) := by omega
            have hC1 : (mid : Int) < (e : Int) := by omega
            by_cases hA : a < j
            · have hA0 : (a : Int) < (j : Int) := by omega
              by_cases hD : e < b
              · have hD0 : (e : Int) < (b : Int) := by omega
                have HR : Aside (Rot j m e d d) := by
                  obtain rfl : e = m := by omega
                  exact rot_none d j e
                obtain ⟨g1, g2, g3, g4, g5⟩ := GL.out d HR.out
                have HM : Aside (Merged (ltOf cf) a mid d d) := merged_trivial_l (s := j) (by omega) haj hjd g1 g2
                clear g1 g2 g5
                have hl2 := IH.out mid e b d wr (by omega) (by omega) S1.out (by omega) (by omega) (by omega) g3 g4
                clear S1 g3 g4
                go_wp2_with (go_at_fn 48; refine hl2.mono ?_; rintro ee3 w3 ⟨rfl, d3, hm3, S6⟩)
                go_end0
                exact ⟨rfl, d3, FIN.out d d d3 HR.out HM.out hm3, S6⟩
              · have hD0 : ¬ (e : Int) < (b : Int) := by omega
                have HR : Aside (Rot j m e d d) := by
                  obtain rfl : e = m := by omega
                  exact rot_none d j e
                obtain ⟨g1, g2, g3, g4, g5⟩ := GL.out d HR.out
                have HM : Aside (Merged (ltOf cf) a mid d d) := merged_trivial_l (s := j) (by omega) haj hjd g1 g2
                clear g1 g2 g5
                have HM3 : Aside (Merged (ltOf cf) mid b d d) := merged_trivial_l (s := e) (by omega) (by omega) heb g3 g4
                clear g3 g4
                go_wp2
                go_end0
                exact ⟨rfl, d, FIN.out d d d HR.out HM.out HM3.out, S1.out⟩
            · have hA0 : ¬ (a : Int) < (j : Int) := by omega
              by_cases hD : e < b
              · have hD0 : (e : Int) < (b : Int) := by omega
                exfalso; omega
              · have hD0 : ¬ (e : Int) < (b : Int) := by omega
                exfalso; omega
          · have hC0 : ¬ (j : Int) < (m : Int) := by omega
            have hC1 : ¬ (mid : Int) < (e : Int) := by omega
            by_cases hA : a < j
            · have hA0 : (a : Int) < (j : Int) := by omega
              by_cases hD : e < b
              · have hD0 : (e : Int) < (b : Int) := by omega
                have HR : Aside (Rot j m e d d) := by
                  obtain rfl : e = m := by omega
                  exact rot_none d j e
                obtain ⟨g1, g2, g3, g4, g5⟩ := GL.out d HR.out
                have HM : Aside (Merged (ltOf cf) a mid d d) := merged_trivial_l (s := j) (by omega) haj hjd g1 g2
                clear g1 g2 g5
                have HM3 : Aside (Merged (ltOf cf) mid b d d) := merged_trivial_l (s := e) (by omega) (by omega) heb g3 g4
                clear g3 g4
                go_wp2
                go_end0
                exact ⟨rfl, d, FIN.out d d d HR.out HM.out HM3.out, S1.out⟩
              · have hD0 : ¬ (e : Int) < (b : Int) := by omega
                have HR : Aside (Rot j m e d d) := by
                  obtain rfl : e = m := by omega
                  exact rot_none d j e
                obtain ⟨g1, g2, g3, g4, g5⟩ := GL.out d HR.out
                have HM : Aside (Merged (ltOf cf) a mid d d) := merged_trivial_l (s := j) (by omega) haj hjd g1 g2
                clear g1 g2 g5
                have HM3 : Aside (Merged (ltOf cf) mid b d d) := merged_trivial_l (s := e) (by omega) (by omega) heb g3 g4
                clear g3 g4
                go_wp2
                go_end0
                exact ⟨rfl, d, FIN.out d d d HR.out HM.out HM3.out, S1.out⟩
            · have hA0 : ¬ (a : Int) < (j : Int) := by omega
              by_cases hD : e < b
              · have hD0 : (e : Int) < (b : Int) := by omega
                exfalso; omega
              · have hD0 : ¬ (e : Int) < (b : Int) := by omega
                exfalso; omega
  · have hmz : ¬ (mid : Int) < (m : Int) := by omega
    go_enter hF, Try.ntmps48
    go_wp2
    go_loopg [20, 21] (b - a) (fun kx s20 s21 wr => ∃ (i j : Nat), s20 = .int .i64 i ∧ s21 = .int .i64 j ∧ a ≤ i ∧ i ≤ j ∧ j ≤ m ∧ j - i ≤ kx ∧ Aside (SWK enc k w0 blk off d wr) ∧
      Aside (i = a ∨ ltOf cf d[mid + m - i]! d[i - 1]! = false) ∧ Aside (j = m ∨ ltOf cf d[mid + m - 1 - j]! d[j]! = true))
    case atStart => exact ⟨a, m, by first | rfl | (congr 1; omega), rfl, Nat.le_refl _, by omega, Nat.le_refl _, by omega, S0, (show Aside (a = a ∨ _) from .inl rfl), (show Aside (m = m ∨ _) from .inl rfl)⟩
    case round =>
      clear S0
      obtain ⟨i, j, rfl, rfl, hai, hij, hjm, hkx, S1, I, J⟩ := hrel
      by_cases hlt : i < j
      · have hltz : (i : Int) < (j : Int) := by omega
        obtain ⟨h, hh⟩ : ∃ h, h = (i + j) / 2 := ⟨_, rfl⟩
        have eh : ((i : Int) + (j : Int)) / 2 = (h : Int) := by omega
        have hih : i ≤ h := by omega
        have hhj : h < j := by omega
        clear hh
        have pz : (h : Int) ≤ (mid : Int) + (m : Int) - 1 := by omega
        cases hL : ltOf cf d[mid + m - 1 - h]! d[h]! with
        | false =>
          have ea24 : ((mid : Int) + (m : Int) - 1 - (h : Int)).toNat = mid + m - 1 - h := by omega
          have pa24 : (0 : Int) ≤ (mid : Int) + (m : Int) - 1 - (h : Int) := by omega
          have ba24 : (mid : Int) + (m : Int) - 1 - (h : Int) < (d.size : Int) := by omega
          have ra24 : IntKind.i64.wrap ((mid : Int) + (m : Int) - 1 - (h : Int)) = (mid : Int) + (m : Int) - 1 - (h : Int) := by rw [IntKind.wrap_i64]; omega
          have ec24 : ((h : Int)).toNat = h := by omega
          have pc24 : (0 : Int) ≤ (h : Int) := by omega
          have bc24 : (h : Int) < (d.size : Int) := by omega
          have rc24 : IntKind.i64.wrap ((h : Int)) = (h : Int) := by rw [IntKind.wrap_i64]; omega
          obtain ⟨x24, hx24⟩ : ∃ x, x = d[mid + m - 1 - h]! := ⟨_, rfl⟩
          obtain ⟨y24, hy24⟩ : ∃ x, x = d[h]! := ⟨_, rfl⟩
          have l24a := S1.out.ld R (by omega) P (mid + m - 1 - h) (by omega)
          have l24b := S1.out.ld R (by omega) P (h) (by omega)
          rw [← hx24] at l24a
          rw [← hy24] at l24b
          have hc24 := S1.out.cmp HC.out (by omega) x24 y24
          have hv24 : ¬ cf x24 y24 < 0 := by rw [hx24, hy24]; exact of_decide_eq_false hL
          have hd24 : decide (cf x24 y24 < 0) = false := decide_eq_false hv24
          clear hx24 hy24
          go_wp2_with fail
          go_quiet_grown (first | (go_at_fn g; refine Calls.grown_of (hc24 _ _)))
          have S2 : Aside (SWK enc k w0 blk off d (grow (wr.drewN nq) osq)) := S1.out.grown nq osq
          clear l24a l24b hc24 S1
          generalize grow (wr.drewN nq) osq = w2 at S2 ⊢
          clear nq osq
          go_wp2
          go_roundg (j - (h + 1))
          case measure => omega
          case rel => exact ⟨h + 1, j, by go_num, rfl, by omega, by omega, hjm, Nat.le_refl _, S2, (show Aside (h + 1 = a ∨ ltOf cf d[mid + m - (h + 1)]! d[h + 1 - 1]! = false) from .inr (by rw [show mid + m - (h + 1) = mid + m - 1 - h by omega]; exact hL)), J⟩
        | true =>
          have ea25 : ((mid : Int) + (m : Int) - 1 - (h : Int)).toNat = mid + m - 1 - h := by omega
          have pa25 : (0 : Int) ≤ (mid : Int) + (m : Int) - 1 - (h : Int) := by omega
          have ba25 : (mid : Int) + (m : Int) - 1 - (h : Int) < (d.size : Int) := by omega
          have ra25 : IntKind.i64.wrap ((mid : Int) + (m : Int) - 1 - (h : Int)) = (mid : Int) + (m : Int) - 1 - (h : Int) := by rw [IntKind.wrap_i64]; omega
          have ec25 : ((h : Int)).toNat = h := by omega
          have pc25 : (0 : Int) ≤ (h : Int) := by omega
          have bc25 : (h : Int) < (d.size : Int) := by omega
          have rc25 : IntKind.i64.wrap ((h : Int)) = (h : Int) := by rw [IntKind.wrap_i64]; omega
          obtain ⟨x25, hx25⟩ : ∃ x, x = d[mid + m - 1 - h]! := ⟨_, rfl⟩
          obtain ⟨y25, hy25⟩ : ∃ x, x = d[h]! := ⟨_, rfl⟩
          have l25a := S1.out.ld R (by omega) P (mid + m - 1 - h) (by omega)
          have l25b := S1.out.ld R (by omega) P (h) (by omega)
          rw [← hx25] at l25a
          rw [← hy25] at l25b
          have hc25 := S1.out.cmp HC.out (by omega) x25 y25
          have hv25 :  cf x25 y25 < 0 := by rw [hx25, hy25]; exact of_decide_eq_true hL
          have hd25 : decide (cf x25 y25 < 0) = true := decide_eq_true hv25
          clear hx25 hy25
          go_wp2_with fail
          go_quiet_grown (first | (go_at_fn g; refine Calls.grown_of (hc25 _ _)))
          have S2 : Aside (SWK enc k w0 blk off d (grow (wr.drewN nq) osq)) := S1.out.grown nq osq
          clear l25a l25b hc25 S1
          generalize grow (wr.drewN nq) osq = w2 at S2 ⊢
          clear nq osq
          go_wp2
          go_roundg (h - i)
          case measure => omega
          case rel => exact ⟨i, h, rfl, rfl, hai, by omega, by omega, Nat.le_refl _, S2, I, (show Aside (h = m ∨ _) from .inr hL)⟩
      · have hltz : ¬ (i : Int) < (j : Int) := by omega
        obtain rfl : j = i := by omega
        obtain ⟨e, he⟩ : ∃ e, e = mid + m - j := ⟨_, rfl⟩
        have ee : (mid : Int) + (m : Int) - (j : Int) = (e : Int) := by omega
        have haj : a ≤ j := by omega
        have hjm2 : j ≤ m := by omega
        have hme : m ≤ e := by omega
        have heb : e ≤ b := by omega
        have hjd : j ≤ mid := by omega
        have hemid : j + (e - m) = mid := by omega
        have c1 : Aside (j = a ∨ e = b ∨ ltOf cf d[e]! d[j - 1]! = false) := by
          rcases I.out with c | c
          · exact .inl c
          · exact .inr (.inr (by rw [he]; exact c))
        have c2 : Aside (j = m ∨ e = m ∨ ltOf cf d[j]! d[e - 1]! = false) := by
          rcases J.out with c | c
          · exact .inl c
          · exact .inr (.inr (by rw [show e - 1 = mid + m - 1 - j by omega]; exact hS.asymmA c))
        have GL : Aside (∀ d1, Rot j m e d d1 → _) := fun d1 hr => rot_glue hS HAB.out.1 HAB.out.2 haj hjm2 hme heb hr c1.out c2.out
        have FIN : Aside (∀ d1 d2 d3, Rot j m e d d1 → Merged (ltOf cf) a mid d1 d2 → Merged (ltOf cf) mid b d2 d3 → Merged (ltOf cf) a b d d3) := fun d1 d2 d3 hr m2 m3 => merged_of hS h2 HAB.out.1 HAB.out.2 haj hjm2 hme heb hemid hr c1.out c2.out (fun _ _ => m2) (fun _ _ => m3)
        clear I J HAB c1 c2 hkx hij hai hjm
        rw [hemid] at GL
        have HE : Hid (e = mid + m - j) := he
        clear he
        by_cases hB : j < mid
        · have hB0 : (j : Int) < (mid : Int) := by omega
          have hB1 : (m : Int) < (e : Int) := by omega
          by_cases hC : j < m
          · have hC0 : (j : Int) < (m : Int) := by omega
            have hC1 : (mid : Int) < (e : Int) := by omega
            by_cases hA : a < j
            · have hA0 : (a : Int) < (j : Int) := by omega
              by_cases hD : e < b
              · have hD0 : (e : Int) < (b : Int) := by omega
                have hrot := rotate_g T0.out hF1 hF2 enc g cb blk off cap j m e d0 d w0 wr R hs S1.out (by omega) (by omega) (by omega) hsz
                clear S1
                go_wp2_with (go_at_fn 49; refine hrot.mono ?_; rintro ee1 w1 ⟨rfl, d1, hr1, S3⟩)
                have HR : Aside (Rot j m e d d1) := hr1
                have hd1 : d1.size = d.size := hr1.size
                have S2 : Aside (SWK enc k w0 blk off d1 w1) := S3
                clear hr1 S3
                obtain ⟨g1, g2, g3, g4, g5⟩ := GL.out d1 HR.out
                have hl := IH.out a j mid d1 w1 (by omega) (by omega) S2.out (by omega) (by omega) (by omega) g1 g2
                rw [hd1] at hl
                have G34 : Aside (SortedIn (ltOf cf) mid e d1 ∧ SortedIn (ltOf cf) e b d1) := ⟨g3, g4⟩
                clear S2 g1 g2 g3 g4 g5
                go_wp2_with (go_at_fn_of 48 (Value.int .i64 (j : Int)); refine hl.mono ?_; rintro ee2 w2 ⟨rfl, d2, hm2, S4⟩)
                have HM : Aside (Merged (ltOf cf) a mid d1 d2) := hm2
                have hd2 : d2.size = d.size := hm2.perm.1.trans hd1
                have g3 := glue_right hm2.perm G34.out.1 (Nat.le_refl _)
                have g4 := glue_right hm2.perm G34.out.2 (by omega)
                have S5 : Aside (SWK enc k w0 blk off d2 w2) := S4
                clear hm2 S4 G34
                have hl2 := IH.out mid e b d2 w2 (by omega) (by omega) S5.out (by omega) (by omega) (by omega) g3 g4
                rw [hd2] at hl2
                clear S5 g3 g4
                go_wp2_with (go_at_fn 48; refine hl2.mono ?_; rintro ee3 w3 ⟨rfl, d3, hm3, S6⟩)
                go_end0
                exact ⟨rfl, d3, FIN.out d1 d2 d3 HR.out HM.out hm3, S6⟩
              · have hD0 : ¬ (e : Int) < (b : Int) := by omega
                have hrot := rotate_g T0.out hF1 hF2 enc g cb blk off cap j m e d0 d w0 wr R hs S1.out (by omega) (by omega) (by omega) hsz
                clear S1
                go_wp2_with (go_at_fn 49; refine hrot.mono ?_; rintro ee1 w1 ⟨rfl, d1, hr1, S3⟩)
                have HR : Aside (Rot j m e d d1) := hr1
                have hd1 : d1.size = d.size := hr1.size
                have S2 : Aside (SWK enc k w0 blk off d1 w1) := S3
                clear hr1 S3
                obtain ⟨g1, g2, g3, g4, g5⟩ := GL.out d1 HR.out
                have hl := IH.out a j mid d1 w1 (by omega) (by omega) S2.out (by omega) (by omega) (by omega) g1 g2
                rw [hd1] at hl
                have G34 : Aside (SortedIn (ltOf cf) mid e d1 ∧ SortedIn (ltOf cf) e b d1) := ⟨g3, g4⟩
                clear S2 g1 g2 g3 g4 g5
                go_wp2_with (go_at_fn_of 48 (Value.int .i64 (j : Int)); refine hl.mono ?_; rintro ee2 w2 ⟨rfl, d2, hm2, S4⟩)
                have HM : Aside (Merged (ltOf cf) a mid d1 d2) := hm2
                have hd2 : d2.size = d.size := hm2.perm.1.trans hd1
                have g3 := glue_right hm2.perm G34.out.1 (Nat.le_refl _)
                have g4 := glue_right hm2.perm G34.out.2 (by omega)
                have S5 : Aside (SWK enc k w0 blk off d2 w2) := S4
                clear hm2 S4 G34
                have HM3 : Aside (Merged (ltOf cf) mid b d2 d2) := merged_trivial_l (s := e) (by omega) (by omega) heb g3 g4
                clear g3 g4
                go_wp2
                go_end0
                exact ⟨rfl, d2, FIN.out d1 d2 d2 HR.out HM.out HM3.out, S5.out⟩
            · have hA0 : ¬ (a : Int) < (j : Int) := by omega
              by_cases hD : e < b
              · have hD0 : (e : Int) < (b : Int) := by omega
                have hrot := rotate_g T0.out hF1 hF2 enc g cb blk off cap j m e d0 d w0 wr R hs S1.out (by omega) (by omega) (by omega) hsz
                clear S1
                go_wp2_with (go_at_fn 49; refine hrot.mono ?_; rintro ee1 w1 ⟨rfl, d1, hr1, S3⟩)
                have HR : Aside (Rot j m e d d1) := hr1
                have hd1 : d1.size = d.size := hr1.size
                have S2 : Aside (SWK enc k w0 blk off d1 w1) := S3
                clear hr1 S3
                obtain ⟨g1, g2, g3, g4, g5⟩ := GL.out d1 HR.out
                have HM : Aside (Merged (ltOf cf) a mid d1 d1) := merged_trivial_l (s := j) (by omega) haj hjd g1 g2
                have hd2 : d1.size = d.size := hd1
                clear g1 g2 g5
                have hl2 := IH.out mid e b d1 w1 (by omega) (by omega) S2.out (by omega) (by omega) (by omega) g3 g4
                rw [hd2] at hl2
                clear S2 g3 g4
                go_wp2_with (go_at_fn 48; refine hl2.mono ?_; rintro ee3 w3 ⟨rfl, d3, hm3, S6⟩)
                go_end0
                exact ⟨rfl, d3, FIN.out d1 d1 d3 HR.out HM.out hm3, S6⟩
              · have hD0 : ¬ (e : Int) < (b : Int) := by omega
                have hrot := rotate_g T0.out hF1 hF2 enc g cb blk off cap j m e d0 d w0 wr R hs S1.out (by omega) (by omega) (by omega) hsz
                clear S1
                go_wp2_with (go_at_fn 49; refine hrot.mono ?_; rintro ee1 w1 ⟨rfl, d1, hr1, S3⟩)
                have HR : Aside (Rot j m e d d1) := hr1
                have hd1 : d1.size = d.size := hr1.size
                have S2 : Aside (SWK enc k w0 blk off d1 w1) := S3
                clear hr1 S3
                obtain ⟨g1, g2, g3, g4, g5⟩ := GL.out d1 HR.out
                have HM : Aside (Merged (ltOf cf) a mid d1 d1) := merged_trivial_l (s := j) (by omega) haj hjd g1 g2
                have hd2 : d1.size = d.size := hd1
                clear g1 g2 g5
                have HM3 : Aside (Merged (ltOf cf) mid b d1 d1) := merged_trivial_l (s := e) (by omega) (by omega) heb g3 g4
                clear g3 g4
                go_wp2
                go_end0
                exact ⟨rfl, d1, FIN.out d1 d1 d1 HR.out HM.out HM3.out, S2.out⟩
          · have hC0 : ¬ (j : Int) < (m : Int) := by omega
            have hC1 : ¬ (mid : Int) < (e : Int) := by omega
            by_cases hA : a < j
            · have hA0 : (a : Int) < (j : Int) := by omega
              by_cases hD : e < b
              · have hD0 : (e : Int) < (b : Int) := by omega
                have HR : Aside (Rot j m e d d) := by
                  obtain rfl : j = m := by omega
                  exact rot_none' d j e
                obtain ⟨g1, g2, g3, g4, g5⟩ := GL.out d HR.out
                have hl := IH.out a j mid d wr (by omega) (by omega) S1.out (by omega) (by omega) (by omega) g1 g2
                have G34 : Aside (SortedIn (ltOf cf) mid e d ∧ SortedIn (ltOf cf) e b d) := ⟨g3, g4⟩
                clear S1 g1 g2 g3 g4 g5
                go_wp2_with (go_at_fn_of 48 (Value.int .i64 (j : Int)); refine hl.mono ?_; rintro ee2 w2 ⟨rfl, d2, hm2, S4⟩)
                have HM : Aside (Merged (ltOf cf) a mid d d2) := hm2
                have hd2 : d2.size = d.size := hm2.perm.1
                have g3 := glue_right hm2.perm G34.out.1 (Nat.le_refl _)
                have g4 := glue_right hm2.perm G34.out.2 (by omega)
                have S5 : Aside (SWK enc k w0 blk off d2 w2) := S4
                clear hm2 S4 G34
                have HM3 : Aside (Merged (ltOf cf) mid b d2 d2) := merged_trivial_l (s := e) (by omega) (by omega) heb g3 g4
                clear g3 g4
                go_wp2
                go_end0
                exact ⟨rfl, d2, FIN.out d d2 d2 HR.out HM.out HM3.out, S5.out⟩
              · have hD0 : ¬ (e : Int) < (b : Int) := by omega
                exfalso; omega
            · have hA0 : ¬ (a : Int) < (j : Int) := by omega
              by_cases hD : e < b
              · have hD0 : (e : Int) < (b : Int) := by omega
                have HR : Aside (Rot j m e d d) := by
                  obtain rfl : j = m := by omega
                  exact rot_none' d j e
                obtain ⟨g1, g2, g3, g4, g5⟩ := GL.out d HR.out
                have HM : Aside (Merged (ltOf cf) a mid d d) := merged_trivial_l (s := j) (by omega) haj hjd g1 g2
                clear g1 g2 g5
                have HM3 : Aside (Merged (ltOf cf) mid b d d) := merged_trivial_l (s := e) (by omega) (by omega) heb g3 g4
                clear g3 g4
                go_wp2
                go_end0
                exact ⟨rfl, d, FIN.out d d d HR.out HM.out HM3.out, S1.out⟩
              · have hD0 : ¬ (e : Int) < (b : Int) := by omega
                exfalso; omega
        · have hB0 : ¬ (j : Int) < (mid : Int) := by omega
          have hB1 : ¬ (m : Int) < (e : Int) := by omega
          by_cases hC : j < m
          · have hC0 : (j : Int) < (m : Int) := by omega
            have hC1 : (mid : Int) < (e : Int) := by omega
            by_cases hA : a < j
            · have hA0 : (a : Int) < (j : Int) := by omega
              by_cases hD : e < b
              · have hD0 : (e : Int) < (b : Int) := by omega
                exfalso; omega
              · have hD0 : ¬ (e : Int) < (b : Int) := by omega
                exfalso; omega
            · have hA0 : ¬ (a : Int) < (j : Int) := by omega
              by_cases hD : e < b
              · have hD0 : (e : Int) < (b : Int) := by omega
                exfalso; omega
              · have hD0 : ¬ (e : Int) < (b : Int) := by omega
                exfalso; omega
          · have hC0 : ¬ (j : Int) < (m : Int) := by omega
            have hC1 : ¬ (mid : Int) < (e : Int) := by omega
            by_cases hA : a < j
            · have hA0 : (a : Int) < (j : Int) := by omega
              by_cases hD : e < b
              · have hD0 : (e : Int) < (b : Int) := by omega
                have HR : Aside (Rot j m e d d) := by
                  obtain rfl : e = m := by omega
                  exact rot_none d j e
                obtain ⟨g1, g2, g3, g4, g5⟩ := GL.out d HR.out
                have HM : Aside (Merged (ltOf cf) a mid d d) := merged_trivial_l (s := j) (by omega) haj hjd g1 g2
                clear g1 g2 g5
                have HM3 : Aside (Merged (ltOf cf) mid b d d) := merged_trivial_l (s := e) (by omega) (by omega) heb g3 g4
                clear g3 g4
                go_wp2
                go_end0
                exact ⟨rfl, d, FIN.out d d d HR.out HM.out HM3.out, S1.out⟩
              · have hD0 : ¬ (e : Int) < (b : Int) := by omega
                have HR : Aside (Rot j m e d d) := by
                  obtain rfl : e = m := by omega
                  exact rot_none d j e
                obtain ⟨g1, g2, g3, g4, g5⟩ := GL.out d HR.out
                have HM : Aside (Merged (ltOf cf) a mid d d) := merged_trivial_l (s := j) (by omega) haj hjd g1 g2
                clear g1 g2 g5
                have HM3 : Aside (Merged (ltOf cf) mid b d d) := merged_trivial_l (s := e) (by omega) (by omega) heb g3 g4
                clear g3 g4
                go_wp2
                go_end0
                exact ⟨rfl, d, FIN.out d d d HR.out HM.out HM3.out, S1.out⟩
            · have hA0 : ¬ (a : Int) < (j : Int) := by omega
              by_cases hD : e < b
              · have hD0 : (e : Int) < (b : Int) := by omega
                have HR : Aside (Rot j m e d d) := by
                  obtain rfl : e = m := by omega
                  exact rot_none d j e
                obtain ⟨g1, g2, g3, g4, g5⟩ := GL.out d HR.out
                have HM : Aside (Merged (ltOf cf) a mid d d) := merged_trivial_l (s := j) (by omega) haj hjd g1 g2
                clear g1 g2 g5
                have HM3 : Aside (Merged (ltOf cf) mid b d d) := merged_trivial_l (s := e) (by omega) (by omega) heb g3 g4
                clear g3 g4
                go_wp2
                go_end0
                exact ⟨rfl, d, FIN.out d d d HR.out HM.out HM3.out, S1.out⟩
              · have hD0 : ¬ (e : Int) < (b : Int) := by omega
                have HR : Aside (Rot j m e d d) := by
                  obtain rfl : e = m := by omega
                  exact rot_none d j e
                obtain ⟨g1, g2, g3, g4, g5⟩ := GL.out d HR.out
                have HM : Aside (Merged (ltOf cf) a mid d d) := merged_trivial_l (s := j) (by omega) haj hjd g1 g2
                clear g1 g2 g5
                have HM3 : Aside (Merged (ltOf cf) mid b d d) := merged_trivial_l (s := e) (by omega) (by omega) heb g3 g4
                clear g3 g4
                go_wp2
                go_end0
                exact ⟨rfl, d, FIN.out d d d HR.out HM.out HM3.out, S1.out⟩
end Go.Proofs.Ytdneffnnpjgnbab
