/- The text of a model: what both sides return. -/
import Derived.Test.YtdneffnnpjgnbadDoorDec
import Derived.Test.YtdneffnnpjgnbadDoorModelT
namespace Go.Proofs.YtdneffnnpjgnbadDoor
open Go.RowKit

/-- the library's table of powers of ten, as the program's text lays it -/
def TabW (w : World) : Prop := Lib.TabIs Tryd.prog w "internal/strconv.uint64pow10" .u64 Lib.pow10Tab
theorem TabW.bel {w x : World} (h : TabW w) (hb : Bel w x) : TabW x := Lib.tabBelow_of_tabIs h x hb
set_option maxHeartbeats 1000000 in
theorem Decimal_c (n : Int) (h0 : -9223372036854775808 ≤ n) (h1 : n ≤ 9223372036854775807) (w : World) (ht : TabW w) :
    Calls Tryd.prog 9 #[.int .i64 n] w (Ret (.string (textS (Lib.itoa n))) w) := by
  refine hide_ret fun v H => ?_
  have HF : Hid (Calls Tryd.prog 11 #[.int .i64 n, .int .i64 10] w (Ret v w)) := Lib.hid ((Tryd.strconv_FormatInt_10 n h0 h1 w ht).mono fun e w' ⟨he, k, os, hw⟩ => ⟨by rw [he, ← H.out]; rfl, ext_ex (by rw [hw]; exact Lib.below_grow _ w (Nat.le_refl _) k os)⟩)
  clear ht
  go_enter Tryd.func9, Tryd.ntmps9
  go_wp2_with (first | (go_at_call 11; refine Calls.mono HF.out ?_; rintro ee ww ⟨rfl, _, rfl⟩))
  go_ret
  exact Ret.mk rfl (by (repeat (first | with_reducible exact Bel.refl _ | with_reducible assumption | apply Bel.ext | apply Bel.alloc | apply Bel.drew | exact Bel.refl _ | refine Bel.set ?_ (by first | (simp; done) | (simp [go_sem]; done) | omega) _)) : Bel _ _)
def modelS (a b c : Int) : ByteArray := ⟨#[100, 101, 112, 116, 104, 32]⟩ ++ textS (Lib.itoa a) ++ ⟨#[32, 104, 97, 108, 102, 32]⟩ ++ textS (Lib.itoa b) ++ ⟨#[32, 102, 108, 97, 116, 32]⟩ ++ textS (Lib.itoa c)
def modelT (a b c : Int) : ByteArray := if modelB a b c then modelS a b c else ⟨#[]⟩
theorem itoa_size (n : Int) (h0 : -9223372036854775808 ≤ n) (h1 : n ≤ 9223372036854775807) : (textS (Lib.itoa n)).size ≤ 21 := by
  have := Lib.itoa_length_le n h0 h1
  simpa [textS, ByteArray.size] using this
end Go.Proofs.YtdneffnnpjgnbadDoor
