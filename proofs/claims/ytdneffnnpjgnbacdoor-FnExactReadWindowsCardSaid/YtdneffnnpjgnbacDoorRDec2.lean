/- The program's 'ReadDecimal' answers as 'numR' says. -/
import Derived.Test.YtdneffnnpjgnbacDoorRDec
import Derived.Test.YtdneffnnpjgnbacDoorRLaw
namespace Go.Proofs.YtdneffnnpjgnbacDoor
open Go.RowKit

theorem ReadDecimal_c (s : ByteArray) (hs : s.size ≤ 1048576) (w : World) (ht : TabW w) (he : ErrV w) :
    Calls Tryd.prog 59 #[.string s] w (Ret (.tuple #[.int .i64 (numR s.data.toList).1, .bool (numR s.data.toList).2]) w) :=
  ReadDecimalOf_c s hs (fun n hl hn => by
    rcases num_law _ hl with ⟨m, hm, e⟩ | ⟨hno, _⟩
    · rw [hn] at hm; cases hm; exact e
    · exact absurd hn (hno n)) (fun hl hno => by
    rcases num_law _ hl with ⟨m, hm, _⟩ | ⟨_, e⟩
    · exact absurd hm (hno m)
    · exact e) w ht he
end Go.Proofs.YtdneffnnpjgnbacDoor
