/- What the laws' helpers on slices of Extremum do: copying, comparing, marking, looking at marks. -/
import Derived.Test.YtdneffnnpjgnbacDoorBase
import Derived.Test.YtdneffnnpjgnbacDoorRow
import Derived.Test.YtdneffnnpjgnbacDoorRows
namespace Go.Proofs.YtdneffnnpjgnbacDoor
open Go.RowKit

set_option maxHeartbeats 400000 in
theorem toExtremum_c (x y : Int) (w : World) : Calls Tryd.prog 22 #[.agg #[.int .i64 x, .int .i64 y]] w (Ret (.agg #[.int .i64 x, .int .i64 y]) w) := by
  refine hide_ret fun v H => ?_
  go_enter Tryd.func22, Tryd.ntmps22
  go_wp2
  refine bodyPost_ret (v := .agg #[.int .i64 x, .int .i64 y]) (by simp (maxDischargeDepth := 8) [results, Tryd.results22, go_sem]) rfl (Ret.mk ?_ (?_ : Bel _ _))
  · exact H.out
  · (repeat (first | with_reducible exact Bel.refl _ | with_reducible assumption | apply Bel.ext | apply Bel.alloc | apply Bel.drew | exact Bel.refl _ | refine Bel.set ?_ (by first | (simp; done) | (simp [go_sem]; done) | omega) _))
end Go.Proofs.YtdneffnnpjgnbacDoor
