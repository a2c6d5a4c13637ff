/- The library's stable sort at windows: merging where one piece has one element; told over any program that holds the body. -/
import Derived.Test.YtdneffnnpjgnbabSwapR
namespace Go.Proofs.Ytdneffnnpjgnbab
open Go.RowKit Go.Lib Go.Sort Go.Shelf
variable {P : Program} {α : Type} [Inhabited α]

set_option maxHeartbeats 8000000 in
set_option maxRecDepth 1000000 in
theorem symMerge_first {k : Nat} (T : TyW P k) (hF : P.funcs[48]? = some Try.f48)
    (enc : α → List Value) (cf : α → α → Int) (hS : SWO (ltOf cf)) (g : Nat) (cb : Array Value) (blk off cap a m b : Nat) (d0 d : Array α) (w0 w : World)
    (eg : ∀ args w, (callFunc g args).run P w = .ok (.enter g args) w) (hcmp : CmpLays P g cb enc k cf blk off d0.size w0)
    (R : RowK enc k w0 blk off d0) (hs : d0.size = d.size) (S : SWK enc k w0 blk off d w) (ham : m = a + 1) (hmb : m < b) (h2 : b ≤ d.size) (hsz : d.size < 4611686018427387904) (hB : SortedIn (ltOf cf) m b d) :
    Calls P 48 #[.slice (some ⟨blk, off, none⟩) d.size cap, .int .i64 a, .int .i64 m, .int .i64 b, .func (.func g) #[] cb] w fun e w' => e = .returned (.tuple #[]) ∧ ∃ d', Merged (ltOf cf) a b d d' ∧ SWK enc k w0 blk off d' w' := by
  obtain ⟨mixed, t0, a0, z0, v0, t3, a3, z3, v3, t4, a4, z4, v4, tS, aS, zS, vS, tF, aF, zF, vF, tU, aU, zU, vU, aE, zE⟩ := T
  have S0 : Aside (SWK enc k w0 blk off d w) := S
  have HC : Aside _ := hcmp
  have HB : Aside _ := hB
  clear S hcmp hB
  have e1 : (m : Int) - (a : Int) = 1 := by omega
  have hm1 : m ≤ a + 1 := by omega
  have hm2 : a + 1 ≤ m := by omega
  clear ham
  go_enter hF, Try.ntmps48
  go_wp2
  go_loopg [10, 11] (b - m) (fun kx s10 s11 wr => ∃ (i j : Nat), s10 = .int .i64 i ∧ s11 = .int .i64 j ∧ m ≤ i ∧ i ≤ j ∧ j ≤ b ∧ j - i ≤ kx ∧ Aside (SWK enc k w0 blk off d wr) ∧
    Aside (i = m ∨ ltOf cf d[i - 1]! d[a]! = true) ∧ Aside (j = b ∨ ltOf cf d[j]! d[a]! = false))
  case atStart => exact ⟨m, b, rfl, rfl, Nat.le_refl _, by omega, Nat.le_refl _, Nat.le_refl _, S0, (show Aside (m = m ∨ ltOf cf d[m - 1]! d[a]! = true) from .inl rfl), (show Aside (b = b ∨ ltOf cf d[b]! d[a]! = false) from .inl rfl)⟩
  case round =>
    clear S0
    obtain ⟨i, j, rfl, rfl, hmi, hij, hjb, hkx, S1, I, J⟩ := hrel
    by_cases hlt : i < j
    · have hltz : (i : Int) < (j : Int) := by omega
      obtain ⟨h, hh⟩ : ∃ h, h = (i + j) / 2 := ⟨_, rfl⟩
      have eh : ((i : Int) + (j : Int)) / 2 = (h : Int) := by omega
      have hih : i ≤ h := by omega
      have hhj : h < j := by omega
      clear hh
      cases hL : ltOf cf d[h]! d[a]! with
      | true =>
        have ea24 : ((h : Int)).toNat = h := by omega
        have pa24 : (0 : Int) ≤ (h : Int) := by omega
        have ba24 : (h : Int) < (d.size : Int) := by omega
        have ra24 : IntKind.i64.wrap ((h : Int)) = (h : Int) := by rw [IntKind.wrap_i64]; omega
        have ec24 : ((a : Int)).toNat = a := by omega
        have pc24 : (0 : Int) ≤ (a : Int) := by omega
        have bc24 : (a : Int) < (d.size : Int) := by omega
        have rc24 : IntKind.i64.wrap ((a : Int)) = (a : Int) := by rw [IntKind.wrap_i64]; omega
        obtain ⟨x24, hx24⟩ : ∃ x, x = d[h]! := ⟨_, rfl⟩
        obtain ⟨y24, hy24⟩ : ∃ x, x = d[a]! := ⟨_, rfl⟩
        have l24a := S1.out.ld R (by omega) P (h) (by omega)
        have l24b := S1.out.ld R (by omega) P (a) (by omega)
        rw [← hx24] at l24a
        rw [← hy24] at l24b
        have hc24 := S1.out.cmp HC.out (by omega) x24 y24
        have hv24 :  cf x24 y24 < 0 := by rw [hx24, hy24]; exact of_decide_eq_true hL
        have hd24 : decide (cf x24 y24 < 0) = true := decide_eq_true hv24
        clear hx24 hy24
        go_wp2_with fail
        go_quiet_grown (first | (go_at_fn g; refine Calls.grown_of (hc24 _ _)))
        have S2 : Aside (SWK enc k w0 blk off d (grow (wr.drewN nq) osq)) := S1.out.grown nq osq
        clear l24a l24b hc24 S1
        generalize grow (wr.drewN nq) osq = w2 at S2 ⊢
        clear nq osq
        go_wp2
        go_roundg (j - (h + 1))
        case measure => omega
        case rel => exact ⟨h + 1, j, by go_num, rfl, by omega, by omega, hjb, Nat.le_refl _, S2, (show Aside (h + 1 = m ∨ ltOf cf d[h + 1 - 1]! d[a]! = true) from .inr hL), J⟩
      | false =>
        have ea25 : ((h : Int)).toNat = h := by omega
        have pa25 : (0 : Int) ≤ (h : Int) := by omega
        have ba25 : (h : Int) < (d.size : Int) := by omega
        have ra25 : IntKind.i64.wrap ((h : Int)) = (h : Int) := by rw [IntKind.wrap_i64]; omega
        have ec25 : ((a : Int)).toNat = a := by omega
        have pc25 : (0 : Int) ≤ (a : Int) := by omega
        have bc25 : (a : Int) < (d.size : Int) := by omega
        have rc25 : IntKind.i64.wrap ((a : Int)) = (a : Int) := by rw [IntKind.wrap_i64]; omega
        obtain ⟨x25, hx25⟩ : ∃ x, x = d[h]! := ⟨_, rfl⟩
        obtain ⟨y25, hy25⟩ : ∃ x, x = d[a]! := ⟨_, rfl⟩
        have l25a := S1.out.ld R (by omega) P (h) (by omega)
        have l25b := S1.out.ld R (by omega) P (a) (by omega)
        rw [← hx25] at l25a
        rw [← hy25] at l25b
        have hc25 := S1.out.cmp HC.out (by omega) x25 y25
        have hv25 : ¬ cf x25 y25 < 0 := by rw [hx25, hy25]; exact of_decide_eq_false hL
        have hd25 : decide (cf x25 y25 < 0) = false := decide_eq_false hv25
        clear hx25 hy25
        go_wp2_with fail
        go_quiet_grown (first | (go_at_fn g; refine Calls.grown_of (hc25 _ _)))
        have S2 : Aside (SWK enc k w0 blk off d (grow (wr.drewN nq) osq)) := S1.out.grown nq osq
        clear l25a l25b hc25 S1
        generalize grow (wr.drewN nq) osq = w2 at S2 ⊢
        clear nq osq
        go_wp2
        go_roundg (h - i)
        case measure => omega
        case rel => exact ⟨i, h, rfl, rfl, hmi, by omega, by omega, Nat.le_refl _, S2, I, (show Aside (h = b ∨ ltOf cf d[h]! d[a]! = false) from .inr hL)⟩
    · have hltz : ¬ (i : Int) < (j : Int) := by omega
      obtain rfl : j = i := by omega
      have FIN : Aside (∀ dk, Rot a (a + 1) j d dk → Merged (ltOf cf) a b d dk) := fun dk hr => by
        have HB' := HB.out
        obtain rfl : m = a + 1 := by omega
        exact ⟨permIn_mono _ _ _ _ _ _ (Nat.le_refl _) hjb h2 hr.perm, merge_first hS HB' hmi hjb hr I.out J.out⟩
      clear I J HB hkx
      go_wp2
      go_loopg [13] (j - a) (fun kx s13 wr => ∃ (q : Nat) (dk : Array α), s13 = .int .i64 q ∧ a ≤ q ∧ q + 1 ≤ j ∧ j - q ≤ kx ∧ dk.size = d.size ∧ Aside (SWK enc k w0 blk off dk wr) ∧ Aside (Rot a (a + 1) (q + 1) d dk))
      case atStart => exact ⟨a, d, rfl, Nat.le_refl _, by omega, Nat.le_refl _, rfl, S1, rot_none d a (a + 1)⟩
      case round =>
        clear S1
        obtain ⟨q, dk, rfl, haq, hqj, hkx, hds, S1, HR⟩ := hrel
        by_cases hq : q + 1 < j
        · have hqz : (q : Int) < (j : Int) - 1 := by omega
          have ea26 : ((q : Int)).toNat = q := by omega
          have pa26 : (0 : Int) ≤ (q : Int) := by omega
          have ba26 : (q : Int) < (d.size : Int) := by omega
          have ra26 : IntKind.i64.wrap ((q : Int)) = (q : Int) := by rw [IntKind.wrap_i64]; omega
          have ec26 : ((q : Int) + 1).toNat = q + 1 := by omega
          have pc26 : (0 : Int) ≤ (q : Int) + 1 := by omega
          have bc26 : (q : Int) + 1 < (d.size : Int) := by omega
          have rc26 : IntKind.i64.wrap ((q : Int) + 1) = (q : Int) + 1 := by rw [IntKind.wrap_i64]; omega
          have S2 : Aside (SWK enc k w0 blk off (swp dk (q) (q + 1)) ((wr.drew.setCells blk (off + (q) * k) (enc dk[q + 1]!)).setCells blk (off + (q + 1) * k) (enc dk[q]!))) := S1.out.swapped R (q) (q + 1) (by omega) (by omega)
          have l26a := S1.out.ld1 R (by omega) P (q) (by omega)
          have l26b := S1.out.ld1 R (by omega) P (q + 1) (by omega)
          have s26a := S1.out.st1 R (by omega) P (q) (by omega) dk[q + 1]!
          have s26b := S1.out.st2 R (by omega) P (q) (q + 1) (by omega) (by omega) dk[q + 1]! dk[q]!
          have n26a : (enc dk[q]!).length = k := R.hk _
          have n26b : (enc dk[q + 1]!).length = k := R.hk _
          generalize enc dk[q]! = cI26 at S2 l26a s26b n26a
          generalize enc dk[q + 1]! = cJ26 at S2 l26b s26a s26b n26b
          clear S1
          go_wp2_with fail
          go_big_region_o
          clear l26a l26b s26a s26b
          generalize (wr.drew.setCells blk (off + (q) * k) cJ26).setCells blk (off + (q + 1) * k) cI26 = w2 at S2 ⊢
          go_wp2
          go_roundg (j - (q + 1))
          case measure => omega
          case rel => exact ⟨q + 1, swp dk q (q + 1), by go_num, by omega, by omega, Nat.le_refl _, by rw [size_swp]; exact hds, S2, rot_up HR.out haq (by omega)⟩
        · have hqz : ¬ (q : Int) < (j : Int) - 1 := by omega
          have e : q + 1 = j := by omega
          go_wp2
          refine bodyPost_ret (results_none rfl _ _ _) rfl ?_
          exact ⟨rfl, dk, FIN.out dk (e ▸ HR.out), S1.out⟩
end Go.Proofs.Ytdneffnnpjgnbab
