/- The reference's windows by a rule: l15Made. -/
import Derived.Test.YtdneffnnpjgnbabMade1
import Derived.Test.YtdneffnnpjgnbabMade2
import Derived.Test.YtdneffnnpjgnbabMade3
namespace Go.Proofs.Ytdneffnnpjgnbab
open Go.RowKit

theorem l15Made_c (r : Int) (hr : r = 1 ∨ r = 2 ∨ r = 3) (u v : Value) (xs ys : List (Int × Int)) (hx : xs.length ≤ 1000) (hy : ys.length ≤ 1000) (hbx : bdW xs) (hby : bdW ys) (w : World) (hu : Rd cel2 w u xs) (hv : Rd cel2 w v ys) :
    Calls Try.prog 27 #[u, v, .int .i64 r] w (RetRow 35 2 (fun v => v) (madeL r xs ys).length (cel2.row (madeL r xs ys)) w) := by
  rcases hr with h | h | h
  · exact l15Made1_c r h u v xs ys hx hy hbx hby w hu hv
  · exact l15Made2_c r h u v xs ys hx hy hbx hby w hu hv
  · exact l15Made3_c r h u v xs ys hx hy hbx hby w hu hv
end Go.Proofs.Ytdneffnnpjgnbab
