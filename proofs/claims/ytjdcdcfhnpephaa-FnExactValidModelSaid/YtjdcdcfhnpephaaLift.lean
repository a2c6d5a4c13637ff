/- From what a walk shows of a call to the row's form: the arguments read behind the call as they read before it. -/
import Derived.Test.YtjdcdcfhnpephaaRows
import Derived.Test.YtjdcdcfhnpephaaLib
import Derived.ProofKit
import Derived.OpenShut
import Derived.Lib.SmallJoins
namespace Go.Proofs.Ytjdcdcfhnpephaa
open Go.ChangeShapes Go.WideShapes Go.ChangeAt Go.RowKit

theorem own : ownKnob Try.prog.godebug = none := by kernel_rfl
theorem laidOut : laidOutB Try.prog = true := by kernel_rfl

/-- What was read of old memory reads the same when only new memory has been made. -/
theorem trodAll_below {H : Type} {enc : TypeId × Value → H} {W W' : World} (hb : Below W.heap.size W W') :
    ∀ (ts : List TypeId) {vs : List Value} {ds : List (DataW H)} {ps : List MemPlace}, (∀ t ∈ ts, Try.prog.readableRec t = true ∧ t < Try.prog.types.size) → (∀ p ∈ ps, p.block < W.heap.size) →
      DataW.TrodAll enc Try.prog W 0 (fun _ => true) true ts vs ds ps → DataW.TrodAll enc Try.prog W' 0 (fun b => decide (b < W.heap.size)) true ts vs ds ps
  | [], _, _, _, _, _, h => by
    obtain ⟨rfl, rfl, rfl⟩ := trodAll_nil h
    exact trodAll_mk0
  | t :: ts, _, _, _, hr, hlt, h => by
    obtain ⟨v, vs, d, ds, p, q, rfl, rfl, rfl, h0, h1⟩ := trodAll_cons h
    have r0 := hr t (by simp)
    exact trodAll_cons_mk (Below.trod laidOut r0.1 r0.2 h0 hb (fun x hx => hlt x (by simp [hx])))
      (trodAll_below hb ts (fun t ht => hr t (by simp [ht])) (fun x hx => hlt x (by simp [hx])) h1)

end Go.Proofs.Ytjdcdcfhnpephaa
