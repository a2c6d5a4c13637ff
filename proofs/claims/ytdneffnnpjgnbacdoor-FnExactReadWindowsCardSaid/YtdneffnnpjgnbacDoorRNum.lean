/- Decimal numerals read back: what both sides return. -/
import Derived.Test.YtdneffnnpjgnbacDoorWText
namespace Go.Proofs.YtdneffnnpjgnbacDoor
open Go.RowKit

theorem text_of (s : ByteArray) : s = textS s.data.toList := by cases s; rfl
theorem textS_data (l : List UInt8) : (textS l).data.toList = l := rfl
theorem textS_toList (l : List UInt8) : (textS l).toList = l := by rw [ByteArray.toList_eq]; rfl
theorem textS_extract (l : List UInt8) (a b : Nat) : (textS l).extract a b = textS ((l.take b).drop a) := by
  rw [text_of ((textS l).extract a b)]
  congr 1
  simp [textS, ByteArray.data_extract, List.drop_take]
def dashB (l : List UInt8) : Bool := l.take 1 == [45]
def trimL (l : List UInt8) : List UInt8 := if dashB l then l.drop 1 else l
theorem trimL_le (l : List UInt8) : (trimL l).length ≤ l.length := by unfold trimL; split <;> simp
set_option maxHeartbeats 1000000 in
theorem HasDash_c (l : List UInt8) (w : World) : Calls Tryd.prog 95 #[.string (textS l), .string ⟨#[45]⟩] w (Same (.bool (dashB l)) w) := by
  refine hide_same fun v H => ?_
  have hd : (((textS l).extract 0 1).toList == [45]) = dashB l := by rw [textS_extract, textS_toList, List.drop_zero]; rfl
  have hz := textS_size l
  have hn : l.length = 0 → dashB l = false := fun h => by rw [List.length_eq_zero_iff.1 h]; rfl
  generalize textS l = s at *
  by_cases h1 : ((s.size : Int) < 1)
  · rw [hn (by omega)] at H
    clear hd hn hz
    go_enter Tryd.func95, Tryd.ntmps95
    go_wp2
    go_ret
    exact Same.mk H.out
  · have HD := Lib.hid hd
    clear hd hn hz
    go_enter Tryd.func95, Tryd.ntmps95
    go_wp2
    go_ret
    exact Same.mk (by rw [HD.out]; exact H.out)
set_option maxHeartbeats 1000000 in
theorem TrimDash_c (l : List UInt8) (w : World) : Calls Tryd.prog 85 #[.string (textS l), .string ⟨#[45]⟩] w (Same (.string (textS (trimL l))) w) := by
  refine hide_same fun v H => ?_
  have D1 := Lib.hid (fun w => HasDash_c l w)
  have he : dashB l = true → (textS l).extract 1 (textS l).size = textS (l.drop 1) := fun _ => by rw [textS_extract, textS_size, List.take_length]
  have hz := textS_size l
  unfold trimL at H
  rcases hb : dashB l with _ | _
  · rw [hb] at H D1
    simp only [Bool.not_true, Bool.not_false, if_true, if_false, Bool.false_eq_true] at H
    clear he hb hz
    generalize textS l = s at *
    go_enter Tryd.func85, Tryd.ntmps85
    go_wp2_with (first | (go_at_call 95; refine Calls.mono (D1.out _) ?_; rintro ee ww ⟨rfl, rfl⟩))
    go_ret
    exact Same.mk H.out
  · rw [hb] at H D1
    simp only [if_true] at H
    rw [← he hb] at H
    have hp : 1 ≤ l.length := by
      cases l with
      | nil => exact absurd hb (by decide)
      | cons a r => simp
    rw [← hz] at hp
    clear he hb hz
    generalize textS l = s at *
    go_enter Tryd.func85, Tryd.ntmps85
    go_wp2_with (first | (go_at_call 95; refine Calls.mono (D1.out _) ?_; rintro ee ww ⟨rfl, rfl⟩))
    go_ret
    exact Same.mk H.out
set_option maxHeartbeats 1000000 in
theorem TrimP_c (l : List UInt8) (w : World) : Calls Tryd.prog 72 #[.string (textS l), .string ⟨#[45]⟩] w (Same (.string (textS (trimL l))) w) := by
  refine hide_same fun v H => ?_
  have D1 := Lib.hid (fun w => TrimDash_c l w)
  generalize textS l = s at *
  generalize textS (trimL l) = t at *
  go_enter Tryd.func72, Tryd.ntmps72
  go_wp2_with (first | (go_at_call 85; refine Calls.mono (D1.out _) ?_; rintro ee ww ⟨rfl, rfl⟩))
  go_ret
  exact Same.mk H.out
end Go.Proofs.YtdneffnnpjgnbacDoor
