/- The library's stable sort at windows: two ranges exchanged; told over any program that holds the body, elements of k cells. -/
import Derived.Shelf.SlSortCmp.KitK
import Derived.Sort.WalkB2
import Derived.Sort.WalkB12
import Derived.Deep.LoopGhost
import Derived.Test.YtdneffnnpjgnbabMergePlain
import Derived.Test.YtdneffnnpjgnbabBase
namespace Go.Proofs.Ytdneffnnpjgnbab
open Go.RowKit Go.Lib Go.Sort Go.Shelf

/-- what the bodies ask of the program's types -/
structure TyW (P : Program) (k : Nat) : Prop where
  mixed : P.follows .mixedOrders = true
  t0 : P.underlying 0 = some (TypeDesc.tuple #[])
  a0 : ∀ w, (isAgg 0).run P w = .ok false w
  z0 : ∀ w, (Go.sizeOf 0).run P w = .ok 1 w
  v0 : ∀ w, (zeroValue 0).run P w = .ok (Value.tuple #[]) w
  t3 : P.underlying 3 = some (TypeDesc.int IntKind.i64)
  a3 : ∀ w, (isAgg 3).run P w = .ok false w
  z3 : ∀ w, (Go.sizeOf 3).run P w = .ok 1 w
  v3 : ∀ w, (zeroValue 3).run P w = .ok (Value.int IntKind.i64 0) w
  t4 : P.underlying 4 = some (TypeDesc.bool)
  a4 : ∀ w, (isAgg 4).run P w = .ok false w
  z4 : ∀ w, (Go.sizeOf 4).run P w = .ok 1 w
  v4 : ∀ w, (zeroValue 4).run P w = .ok (Value.bool false) w
  tS : P.underlying 24 = some (TypeDesc.slice 35)
  aS : ∀ w, (isAgg 24).run P w = .ok false w
  zS : ∀ w, (Go.sizeOf 24).run P w = .ok 1 w
  vS : ∀ w, (zeroValue 24).run P w = .ok (Value.slice none 0 0) w
  tF : P.underlying 53 = some (TypeDesc.func #[35, 35] #[3] false)
  aF : ∀ w, (isAgg 53).run P w = .ok false w
  zF : ∀ w, (Go.sizeOf 53).run P w = .ok 1 w
  vF : ∀ w, (zeroValue 53).run P w = .ok (Value.nilFunc) w
  tU : P.underlying 62 = some (TypeDesc.int IntKind.u64)
  aU : ∀ w, (isAgg 62).run P w = .ok false w
  zU : ∀ w, (Go.sizeOf 62).run P w = .ok 1 w
  vU : ∀ w, (zeroValue 62).run P w = .ok (Value.int IntKind.u64 0) w
  aE : ∀ w, (isAgg 35).run P w = .ok true w
  zE : ∀ w, (Go.sizeOf 35).run P w = .ok k w

theorem tyW : TyW Try.prog 2 :=
  ⟨by kernel_rfl, Try.underlying0, Try.isAgg0, Try.sizeOf0, Try.zeroValue0, Try.underlying3, Try.isAgg3, Try.sizeOf3, Try.zeroValue3, Try.underlying4, Try.isAgg4, Try.sizeOf4, Try.zeroValue4,
   Try.underlying24, Try.isAgg24, Try.sizeOf24, Try.zeroValue24,
   Try.underlying53, Try.isAgg53, Try.sizeOf53, Try.zeroValue53,
   Try.underlying62, Try.isAgg62, Try.sizeOf62, Try.zeroValue62, Try.isAgg35, Try.sizeOf35⟩

variable {P : Program} {α : Type} [Inhabited α]

set_option maxHeartbeats 4000000 in
set_option maxRecDepth 1000000 in
theorem swapRange_g {k : Nat} (T : TyW P k) (hF : P.funcs[50]? = some Try.f50) (enc : α → List Value) (g : Nat) (cb : Array Value) (blk off cap a b n : Nat) (d0 d : Array α) (w0 w : World)
    (R : RowK enc k w0 blk off d0) (hs : d0.size = d.size) (S : SWK enc k w0 blk off d w) (h1 : a + n ≤ b) (h2 : b + n ≤ d.size) (hsz : d.size < 4611686018427387904) :
    Calls P 50 #[.slice (some ⟨blk, off, none⟩) d.size cap, .int .i64 a, .int .i64 b, .int .i64 n, .func (.func g) #[] cb] w fun e w' => e = .returned (.tuple #[]) ∧ SWK enc k w0 blk off (swpR d a b n) w' := by
  obtain ⟨mixed, t0, a0, z0, v0, t3, a3, z3, v3, t4, a4, z4, v4, tS, aS, zS, vS, tF, aF, zF, vF, tU, aU, zU, vU, aE, zE⟩ := T
  have S0 : Aside (SWK enc k w0 blk off d w) := S
  clear S
  go_enter hF, Try.ntmps50
  go_wp2
  go_loopg [10] n (fun kx s10 wr => ∃ i : Nat, s10 = .int .i64 i ∧ i ≤ n ∧ n - i ≤ kx ∧ Aside (SWK enc k w0 blk off (swpR d a b i) wr))
  case atStart => exact ⟨0, by go_num, Nat.zero_le _, by omega, S0⟩
  case round =>
    clear S0
    obtain ⟨i, rfl, hin, hkx, S1⟩ := hrel
    by_cases hlt : i < n
    · have hltz : (i : Int) < (n : Int) := by omega
      have hds : (swpR d a b i).size = d.size := swpR_size d a b i
      obtain ⟨dk, hdk⟩ : ∃ x, x = swpR d a b i := ⟨_, rfl⟩
      have HDK : Hid (dk = swpR d a b i) := hdk
      rw [← hdk] at hds S1
      clear hdk
      go_wp2_with fail
      have ea44 : ((a : Int) + (i : Int)).toNat = a + i := by omega
      have pa44 : (0 : Int) ≤ (a : Int) + (i : Int) := by omega
      have ba44 : (a : Int) + (i : Int) < (d.size : Int) := by omega
      have ra44 : IntKind.i64.wrap ((a : Int) + (i : Int)) = (a : Int) + (i : Int) := by rw [IntKind.wrap_i64]; omega
      have ec44 : ((b : Int) + (i : Int)).toNat = b + i := by omega
      have pc44 : (0 : Int) ≤ (b : Int) + (i : Int) := by omega
      have bc44 : (b : Int) + (i : Int) < (d.size : Int) := by omega
      have rc44 : IntKind.i64.wrap ((b : Int) + (i : Int)) = (b : Int) + (i : Int) := by rw [IntKind.wrap_i64]; omega
      have S2 : Aside (SWK enc k w0 blk off (swp dk (a + i) (b + i)) ((wr.drew.setCells blk (off + (a + i) * k) (enc dk[b + i]!)).setCells blk (off + (b + i) * k) (enc dk[a + i]!))) := S1.out.swapped R (a + i) (b + i) (by omega) (by omega)
      have l44a := S1.out.ld1 R (by omega) P (a + i) (by omega)
      have l44b := S1.out.ld1 R (by omega) P (b + i) (by omega)
      have s44a := S1.out.st1 R (by omega) P (a + i) (by omega) dk[b + i]!
      have s44b := S1.out.st2 R (by omega) P (a + i) (b + i) (by omega) (by omega) dk[b + i]! dk[a + i]!
      have n44a : (enc dk[a + i]!).length = k := R.hk _
      have n44b : (enc dk[b + i]!).length = k := R.hk _
      generalize enc dk[a + i]! = cI44 at S2 l44a s44b n44a
      generalize enc dk[b + i]! = cJ44 at S2 l44b s44a s44b n44b
      clear S1
      go_big_region_o
      clear l44a l44b s44a s44b
      generalize (wr.drew.setCells blk (off + (a + i) * k) cJ44).setCells blk (off + (b + i) * k) cI44 = w2 at S2 ⊢
      go_wp2
      go_roundg (n - (i + 1))
      case measure => omega
      case rel =>
        exact ⟨i + 1, by go_num, by omega, Nat.le_refl _, by rw [swpR, ← HDK.out]; exact S2⟩
    · have hltz : ¬ (i : Int) < (n : Int) := by omega
      have e : i = n := by omega
      subst e
      go_wp2
      go_end0
      exact ⟨rfl, S1.out⟩
end Go.Proofs.Ytdneffnnpjgnbab
