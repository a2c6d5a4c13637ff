/- The library's stable sort at windows: merging where the second piece has one element; told over any program that holds the body. -/
import Derived.Test.YtdneffnnpjgnbabSwapR
namespace Go.Proofs.Ytdneffnnpjgnbab
open Go.RowKit Go.Lib Go.Sort Go.Shelf
variable {P : Program} {α : Type} [Inhabited α]

set_option maxHeartbeats 8000000 in
set_option maxRecDepth 1000000 in
theorem symMerge_last {k : Nat} (T : TyW P k) (hF : P.funcs[48]? = some Try.f48)
    (enc : α → List Value) (cf : α → α → Int) (hS : SWO (ltOf cf)) (g : Nat) (cb : Array Value) (blk off cap a m b : Nat) (d0 d : Array α) (w0 w : World)
    (eg : ∀ args w, (callFunc g args).run P w = .ok (.enter g args) w) (hcmp : CmpLays P g cb enc k cf blk off d0.size w0)
    (R : RowK enc k w0 blk off d0) (hs : d0.size = d.size) (S : SWK enc k w0 blk off d w) (ham : a < m) (hn1 : m ≠ a + 1) (hmb : b = m + 1) (h2 : b ≤ d.size) (hsz : d.size < 4611686018427387904) (hA : SortedIn (ltOf cf) a m d) :
    Calls P 48 #[.slice (some ⟨blk, off, none⟩) d.size cap, .int .i64 a, .int .i64 m, .int .i64 b, .func (.func g) #[] cb] w fun e w' => e = .returned (.tuple #[]) ∧ ∃ d', Merged (ltOf cf) a b d d' ∧ SWK enc k w0 blk off d' w' := by
  obtain ⟨mixed, t0, a0, z0, v0, t3, a3, z3, v3, t4, a4, z4, v4, tS, aS, zS, vS, tF, aF, zF, vF, tU, aU, zU, vU, aE, zE⟩ := T
  have S0 : Aside (SWK enc k w0 blk off d w) := S
  have HC : Aside _ := hcmp
  have HA : Aside _ := hA
  clear S hcmp hA
  have e0 : ((m : Int) - (a : Int) == 1) = false := by rw [beq_eq_false_iff_ne]; omega
  have e1 : (b : Int) - (m : Int) = 1 := by omega
  have hm1 : b ≤ m + 1 := by omega
  have hm2 : m + 1 ≤ b := by omega
  clear hmb hn1
  go_enter hF, Try.ntmps48
  go_wp2
  go_loopg [14, 15] (m - a) (fun kx s14 s15 wr => ∃ (i j : Nat), s14 = .int .i64 i ∧ s15 = .int .i64 j ∧ a ≤ i ∧ i ≤ j ∧ j ≤ m ∧ j - i ≤ kx ∧ Aside (SWK enc k w0 blk off d wr) ∧
    Aside (i = a ∨ ltOf cf d[m]! d[i - 1]! = false) ∧ Aside (j = m ∨ ltOf cf d[m]! d[j]! = true))
  case atStart => exact ⟨a, m, rfl, rfl, Nat.le_refl _, by omega, Nat.le_refl _, Nat.le_refl _, S0, (show Aside (a = a ∨ ltOf cf d[m]! d[a - 1]! = false) from .inl rfl), (show Aside (m = m ∨ ltOf cf d[m]! d[m]! = true) from .inl rfl)⟩
  case round =>
    clear S0
    obtain ⟨i, j, rfl, rfl, hai, hij, hjm, hkx, S1, I, J⟩ := hrel
    by_cases hlt : i < j
    · have hltz : (i : Int) < (j : Int) := by omega
      obtain ⟨h, hh⟩ : ∃ h, h = (i + j) / 2 := ⟨_, rfl⟩
      have eh : ((i : Int) + (j : Int)) / 2 = (h : Int) := by omega
      have hih : i ≤ h := by omega
      have hhj : h < j := by omega
      clear hh
      cases hL : ltOf cf d[m]! d[h]! with
      | false =>
        have ea24 : ((m : Int)).toNat = m := by omega
        have pa24 : (0 : Int) ≤ (m : Int) := by omega
        have ba24 : (m : Int) < (d.size : Int) := by omega
        have ra24 : IntKind.i64.wrap ((m : Int)) = (m : Int) := by rw [IntKind.wrap_i64]; omega
        have ec24 : ((h : Int)).toNat = h := by omega
        have pc24 : (0 : Int) ≤ (h : Int) := by omega
        have bc24 : (h : Int) < (d.size : Int) := by omega
        have rc24 : IntKind.i64.wrap ((h : Int)) = (h : Int) := by rw [IntKind.wrap_i64]; omega
        obtain ⟨x24, hx24⟩ : ∃ x, x = d[m]! := ⟨_, rfl⟩
        obtain ⟨y24, hy24⟩ : ∃ x, x = d[h]! := ⟨_, rfl⟩
        have l24a := S1.out.ld R (by omega) P (m) (by omega)
        have l24b := S1.out.ld R (by omega) P (h) (by omega)
        rw [← hx24] at l24a
        rw [← hy24] at l24b
        have hc24 := S1.out.cmp HC.out (by omega) x24 y24
        have hv24 : ¬ cf x24 y24 < 0 := by rw [hx24, hy24]; exact of_decide_eq_false hL
        have hd24 : decide (cf x24 y24 < 0) = false := decide_eq_false hv24
        clear hx24 hy24
        go_wp2_with fail
        go_quiet_grown (first | (go_at_fn g; refine Calls.grown_of (hc24 _ _)))
        have S2 : Aside (SWK enc k w0 blk off d (grow (wr.drewN nq) osq)) := S1.out.grown nq osq
        clear l24a l24b hc24 S1
        generalize grow (wr.drewN nq) osq = w2 at S2 ⊢
        clear nq osq
        go_wp2
        go_roundg (j - (h + 1))
        case measure => omega
        case rel => exact ⟨h + 1, j, by go_num, rfl, by omega, by omega, hjm, Nat.le_refl _, S2, (show Aside (h + 1 = a ∨ ltOf cf d[m]! d[h + 1 - 1]! = false) from .inr hL), J⟩
      | true =>
        have ea25 : ((m : Int)).toNat = m := by omega
        have pa25 : (0 : Int) ≤ (m : Int) := by omega
        have ba25 : (m : Int) < (d.size : Int) := by omega
        have ra25 : IntKind.i64.wrap ((m : Int)) = (m : Int) := by rw [IntKind.wrap_i64]; omega
        have ec25 : ((h : Int)).toNat = h := by omega
        have pc25 : (0 : Int) ≤ (h : Int) := by omega
        have bc25 : (h : Int) < (d.size : Int) := by omega
        have rc25 : IntKind.i64.wrap ((h : Int)) = (h : Int) := by rw [IntKind.wrap_i64]; omega
        obtain ⟨x25, hx25⟩ : ∃ x, x = d[m]! := ⟨_, rfl⟩
        obtain ⟨y25, hy25⟩ : ∃ x, x = d[h]! := ⟨_, rfl⟩
        have l25a := S1.out.ld R (by omega) P (m) (by omega)
        have l25b := S1.out.ld R (by omega) P (h) (by omega)
        rw [← hx25] at l25a
        rw [← hy25] at l25b
        have hc25 := S1.out.cmp HC.out (by omega) x25 y25
        have hv25 :  cf x25 y25 < 0 := by rw [hx25, hy25]; exact of_decide_eq_true hL
        have hd25 : decide (cf x25 y25 < 0) = true := decide_eq_true hv25
        clear hx25 hy25
        go_wp2_with fail
        go_quiet_grown (first | (go_at_fn g; refine Calls.grown_of (hc25 _ _)))
        have S2 : Aside (SWK enc k w0 blk off d (grow (wr.drewN nq) osq)) := S1.out.grown nq osq
        clear l25a l25b hc25 S1
        generalize grow (wr.drewN nq) osq = w2 at S2 ⊢
        clear nq osq
        go_wp2
        go_roundg (h - i)
        case measure => omega
        case rel => exact ⟨i, h, rfl, rfl, hai, by omega, by omega, Nat.le_refl _, S2, I, (show Aside (h = m ∨ ltOf cf d[m]! d[h]! = true) from .inr hL)⟩
    · have hltz : ¬ (i : Int) < (j : Int) := by omega
      obtain rfl : j = i := by omega
      have FIN : Aside (∀ dk, Rot j m (m + 1) d dk → Merged (ltOf cf) a b d dk) := fun dk hr => by
        have HA' := HA.out
        obtain rfl : b = m + 1 := by omega
        exact ⟨permIn_mono _ _ _ _ _ _ hai (Nat.le_refl _) h2 hr.perm, merge_last hS HA' hai hjm hr I.out J.out⟩
      clear I J HA hkx
      go_wp2
      go_loopg [17] (m - j) (fun kx s17 wr => ∃ (q : Nat) (dk : Array α), s17 = .int .i64 q ∧ j ≤ q ∧ q ≤ m ∧ q - j ≤ kx ∧ dk.size = d.size ∧ Aside (SWK enc k w0 blk off dk wr) ∧ Aside (Rot q m (m + 1) d dk))
      case atStart => exact ⟨m, d, rfl, hjm, Nat.le_refl _, Nat.le_refl _, rfl, S1, rot_none' d m (m + 1)⟩
      case round =>
        clear S1
        obtain ⟨q, dk, rfl, hjq, hqm, hkx, hds, S1, HR⟩ := hrel
        by_cases hq : j < q
        · have hqz : (j : Int) < (q : Int) := by omega
          obtain ⟨u, hu⟩ : ∃ u, q = u + 1 := ⟨q - 1, by omega⟩
          have HU : Hid (q = u + 1) := hu
          have hu1 : u + 1 ≤ q := by omega
          have hu2 : q ≤ u + 1 := by omega
          clear hu
          have ea26 : ((q : Int)).toNat = q := by omega
          have pa26 : (0 : Int) ≤ (q : Int) := by omega
          have ba26 : (q : Int) < (d.size : Int) := by omega
          have ra26 : IntKind.i64.wrap ((q : Int)) = (q : Int) := by rw [IntKind.wrap_i64]; omega
          have ec26 : ((q : Int) - 1).toNat = u := by omega
          have pc26 : (0 : Int) ≤ (q : Int) - 1 := by omega
          have bc26 : (q : Int) - 1 < (d.size : Int) := by omega
          have rc26 : IntKind.i64.wrap ((q : Int) - 1) = (q : Int) - 1 := by rw [IntKind.wrap_i64]; omega
          have S2 : Aside (SWK enc k w0 blk off (swp dk (q) (u)) ((wr.drew.setCells blk (off + (q) * k) (enc dk[u]!)).setCells blk (off + (u) * k) (enc dk[q]!))) := S1.out.swapped R (q) (u) (by omega) (by omega)
          have l26a := S1.out.ld1 R (by omega) P (q) (by omega)
          have l26b := S1.out.ld1 R (by omega) P (u) (by omega)
          have s26a := S1.out.st1 R (by omega) P (q) (by omega) dk[u]!
          have s26b := S1.out.st2 R (by omega) P (q) (u) (by omega) (by omega) dk[u]! dk[q]!
          have n26a : (enc dk[q]!).length = k := R.hk _
          have n26b : (enc dk[u]!).length = k := R.hk _
          generalize enc dk[q]! = cI26 at S2 l26a s26b n26a
          generalize enc dk[u]! = cJ26 at S2 l26b s26a s26b n26b
          clear S1
          go_wp2_with fail
          go_big_region_o
          clear l26a l26b s26a s26b
          generalize (wr.drew.setCells blk (off + (q) * k) cJ26).setCells blk (off + (u) * k) cI26 = w2 at S2 ⊢
          go_wp2
          go_roundg (u - j)
          case measure => omega
          case rel => exact ⟨u, swp dk q u, by congr 1; omega, by omega, by omega, Nat.le_refl _, by rw [size_swp]; exact hds, S2, (show Aside (Rot u m (m + 1) d (swp dk q u)) from by have := HR.out; rw [HU.out] at this ⊢; exact rot_down this (by omega) (by omega))⟩
        · have hqz : ¬ (j : Int) < (q : Int) := by omega
          have e : q = j := by omega
          have HE : Hid (q = j) := e
          clear e
          go_wp2
          refine bodyPost_ret (results_none rfl _ _ _) rfl ?_
          exact ⟨rfl, dk, FIN.out dk (HE.out ▸ HR.out), S1.out⟩
end Go.Proofs.Ytdneffnnpjgnbab
