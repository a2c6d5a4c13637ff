/- What the laws' helpers on slices of Point do: copying, comparing, marking, looking at marks. -/
import Derived.Test.YtdneffnnpjgnbaaBase
import Derived.Test.YtdneffnnpjgnbaaRow
import Derived.Test.YtdneffnnpjgnbaaRows
namespace Go.Proofs.Ytdneffnnpjgnbaa
open Go.RowKit

set_option maxHeartbeats 400000 in
theorem toPoint_c (x y : Int) (w : World) : Calls Try.prog 20 #[.agg #[.int .i64 x, .int .i64 y]] w (Ret (.agg #[.int .i64 x, .int .i64 y]) w) := by
  refine hide_ret fun v H => ?_
  go_enter Try.func20, Try.ntmps20
  go_wp2
  refine bodyPost_ret (v := .agg #[.int .i64 x, .int .i64 y]) (by simp (maxDischargeDepth := 8) [results, Try.results20, go_sem]) rfl (Ret.mk ?_ (?_ : Bel _ _))
  · exact H.out
  · (repeat (first | with_reducible exact Bel.refl _ | with_reducible assumption | apply Bel.ext | apply Bel.alloc | apply Bel.drew | exact Bel.refl _ | refine Bel.set ?_ (by first | (simp; done) | (simp [go_sem]; done) | omega) _))
end Go.Proofs.Ytdneffnnpjgnbaa
