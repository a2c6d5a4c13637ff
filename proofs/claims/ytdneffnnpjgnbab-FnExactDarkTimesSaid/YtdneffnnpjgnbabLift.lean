/- From what a walk shows of a call to the row's form: the arguments read behind the call as they read before it. -/
import Derived.Test.YtdneffnnpjgnbabRows
import Derived.Test.YtdneffnnpjgnbabLib
import Derived.ProofKit
import Derived.OpenShut
import Derived.Lib.SmallJoins
namespace Go.Proofs.Ytdneffnnpjgnbab
open Go.ChangeShapes Go.WideShapes Go.ChangeAt Go.RowKit

theorem own : ownKnob Try.prog.godebug = none := by kernel_rfl
theorem laidOut : laidOutB Try.prog = true := by kernel_rfl

/-- What was read of old memory reads the same when only new memory has been made. -/
theorem trodAll_below' {P : Program} (hl : laidOutB P = true) {H : Type} {enc : TypeId × Value → H} {W W' : World} (hb : Below W.heap.size W W') :
    ∀ (ts : List TypeId) {vs : List Value} {ds : List (DataW H)} {ps : List MemPlace}, (ts.all fun t => P.readableRec t && decide (t < P.types.size)) = true → (∀ p ∈ ps, p.block < W.heap.size) →
      DataW.TrodAll enc P W 0 (fun _ => true) true ts vs ds ps → DataW.TrodAll enc P W' 0 (fun b => decide (b < W.heap.size)) true ts vs ds ps
  | [], _, _, _, _, _, h => by
    obtain ⟨rfl, rfl, rfl⟩ := trodAll_nil h
    exact trodAll_mk0
  | t :: ts, _, _, _, hr, hlt, h => by
    obtain ⟨v, vs, d, ds, p, q, rfl, rfl, rfl, h0, h1⟩ := trodAll_cons h
    simp only [List.all_cons, Bool.and_eq_true, decide_eq_true_eq] at hr
    exact trodAll_cons_mk (Below.trod hl hr.1.1 hr.1.2 h0 hb (fun x hx => hlt x (by simp [hx])))
      (trodAll_below' hl hb ts hr.2 (fun x hx => hlt x (by simp [hx])) h1)

theorem trodAll_below {H : Type} {enc : TypeId × Value → H} {W W' : World} (hb : Below W.heap.size W W') (ts : List TypeId) {vs : List Value} {ds : List (DataW H)} {ps : List MemPlace}
    (hr : (ts.all fun t => Try.prog.readableRec t && decide (t < Try.prog.types.size)) = true) (hlt : ∀ p ∈ ps, p.block < W.heap.size)
    (h : DataW.TrodAll enc Try.prog W 0 (fun _ => true) true ts vs ds ps) : DataW.TrodAll enc Try.prog W' 0 (fun b => decide (b < W.heap.size)) true ts vs ds ps :=
  trodAll_below' laidOut hb ts hr hlt h

end Go.Proofs.Ytdneffnnpjgnbab
