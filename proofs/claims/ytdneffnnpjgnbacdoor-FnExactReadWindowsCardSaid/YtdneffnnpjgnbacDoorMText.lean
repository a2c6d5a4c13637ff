/- The text of a model: what both sides return. -/
import Derived.Test.YtdneffnnpjgnbacDoorDec
import Derived.Test.YtdneffnnpjgnbacDoorModelT
namespace Go.Proofs.YtdneffnnpjgnbacDoor
open Go.RowKit

/-- the library's table of powers of ten, as the program's text lays it -/
def TabW (w : World) : Prop := Lib.TabIs Tryd.prog w "internal/strconv.uint64pow10" .u64 Lib.pow10Tab
theorem TabW.bel {w x : World} (h : TabW w) (hb : Bel w x) : TabW x := Lib.tabBelow_of_tabIs h x hb
set_option maxHeartbeats 1000000 in
theorem Decimal_c (n : Int) (h0 : -9223372036854775808 ≤ n) (h1 : n ≤ 9223372036854775807) (w : World) (ht : TabW w) :
    Calls Tryd.prog 28 #[.int .i64 n] w (Ret (.string (textS (Lib.itoa n))) w) := by
  refine hide_ret fun v H => ?_
  have HF : Hid (Calls Tryd.prog 51 #[.int .i64 n, .int .i64 10] w (Ret v w)) := Lib.hid ((Tryd.strconv_FormatInt_10 n h0 h1 w ht).mono fun e w' ⟨he, k, os, hw⟩ => ⟨by rw [he, ← H.out]; rfl, ext_ex (by rw [hw]; exact Lib.below_grow _ w (Nat.le_refl _) k os)⟩)
  clear ht
  go_enter Tryd.func28, Tryd.ntmps28
  go_wp2_with (first | (go_at_call 51; refine Calls.mono HF.out ?_; rintro ee ww ⟨rfl, _, rfl⟩))
  go_ret
  exact Ret.mk rfl (by (repeat (first | with_reducible exact Bel.refl _ | with_reducible assumption | apply Bel.ext | apply Bel.alloc | apply Bel.drew | exact Bel.refl _ | refine Bel.set ?_ (by first | (simp; done) | (simp [go_sem]; done) | omega) _)) : Bel _ _)
def modelS (a b c : Int) : ByteArray := ⟨#[100, 101, 112, 116, 104, 32]⟩ ++ textS (Lib.itoa a) ++ ⟨#[32, 104, 97, 108, 102, 32]⟩ ++ textS (Lib.itoa b) ++ ⟨#[32, 102, 108, 97, 116, 32]⟩ ++ textS (Lib.itoa c)
def modelT (a b c : Int) : ByteArray := if modelB a b c then modelS a b c else ⟨#[]⟩
theorem itoa_size (n : Int) (h0 : -9223372036854775808 ≤ n) (h1 : n ≤ 9223372036854775807) : (textS (Lib.itoa n)).size ≤ 21 := by
  have := Lib.itoa_length_le n h0 h1
  simpa [textS, ByteArray.size] using this
set_option maxHeartbeats 2000000 in
theorem ModelText_c (a b c : Int) (w : World) (ht : TabW w) : Calls Tryd.prog 9 #[.agg #[.int .i64 a, .int .i64 b, .int .i64 c]] w (Ret (.string (modelT a b c)) w) := by
  refine hide_ret fun v H => ?_
  have HV := Lib.hid (fun w => ValidModelT_c a b c w)
  unfold modelT at H
  rcases hm : modelB a b c with _ | _
  · rw [hm] at HV H
    simp only [Bool.not_true, Bool.not_false, if_true, if_false, Bool.false_eq_true] at H
    clear hm
    go_enter Tryd.func9, Tryd.ntmps9
    go_wp2_with (first | (go_at_call 27; refine Calls.mono (HV.out _) ?_; rintro ee ww ⟨rfl, _, rfl⟩))
    go_ret
    exact Ret.mk H.out (by (repeat (first | with_reducible exact Bel.refl _ | with_reducible assumption | apply Bel.ext | apply Bel.alloc | apply Bel.drew | exact Bel.refl _ | refine Bel.set ?_ (by first | (simp; done) | (simp [go_sem]; done) | omega) _)) : Bel _ _)
  · have hb := modelB_iff.1 hm
    rw [hm] at HV H
    simp only [Bool.not_true, Bool.not_false, if_true, if_false, Bool.false_eq_true] at H
    unfold modelS at H
    have HT := Lib.hid ht
    have D1 := Lib.hid (fun x (hx : Bel w x) => Decimal_c a (by omega) (by omega) x (HT.out.bel hx))
    have D2 := Lib.hid (fun x (hx : Bel w x) => Decimal_c b (by omega) (by omega) x (HT.out.bel hx))
    have D3 := Lib.hid (fun x (hx : Bel w x) => Decimal_c c (by omega) (by omega) x (HT.out.bel hx))
    have s1 := itoa_size a (by omega) (by omega)
    have s2 := itoa_size b (by omega) (by omega)
    have s3 := itoa_size c (by omega) (by omega)
    generalize textS (Lib.itoa a) = A at *
    generalize textS (Lib.itoa b) = B at *
    generalize textS (Lib.itoa c) = C at *
    clear hm hb ht
    have q1 : ¬ 9223372036854775807 < 6 + A.size := by omega
    have q2 : ¬ 9223372036854775807 < 6 + A.size + 6 := by omega
    have q3 : ¬ 9223372036854775807 < 6 + A.size + 6 + B.size := by omega
    have q4 : ¬ 9223372036854775807 < 6 + A.size + 6 + B.size + 6 := by omega
    have q5 : ¬ 9223372036854775807 < 6 + A.size + 6 + B.size + 6 + C.size := by omega
    go_enter Tryd.func9, Tryd.ntmps9
    go_wp2_with (first | (go_at_call 27; refine Calls.mono (HV.out _) ?_; rintro ee ww ⟨rfl, _, rfl⟩))
    go_region_held3 (fun q_ => q_.cell? ⟨w.heap.size, 0, none⟩ = some (.int .i64 a) ∧ q_.cell? ⟨w.heap.size, 1, none⟩ = some (.int .i64 b) ∧ q_.cell? ⟨w.heap.size, 2, none⟩ = some (.int .i64 c)) (simp [go_sem, *]) (first | (go_at_call 28; refine args_g1 (.int .i64 a) (by with_reducible rfl) ?_; refine Calls.mono (D1.out _ ?_) ?_; (focus (repeat (first | with_reducible exact Bel.refl _ | with_reducible assumption | apply Bel.ext | apply Bel.alloc | apply Bel.drew | exact Bel.refl _))); rintro ee ww ⟨rfl, _, rfl⟩) | (go_at_call 28; refine args_g1 (.int .i64 b) (by with_reducible rfl) ?_; refine Calls.mono (D2.out _ ?_) ?_; (focus (repeat (first | with_reducible exact Bel.refl _ | with_reducible assumption | apply Bel.ext | apply Bel.alloc | apply Bel.drew | exact Bel.refl _))); rintro ee ww ⟨rfl, _, rfl⟩) | (go_at_call 28; refine args_g1 (.int .i64 c) (by with_reducible rfl) ?_; refine Calls.mono (D3.out _ ?_) ?_; (focus (repeat (first | with_reducible exact Bel.refl _ | with_reducible assumption | apply Bel.ext | apply Bel.alloc | apply Bel.drew | exact Bel.refl _))); rintro ee ww ⟨rfl, _, rfl⟩))
    go_wp2_with fail
    go_ret
    exact Ret.mk H.out (by (repeat (first | with_reducible exact Bel.refl _ | with_reducible assumption | apply Bel.ext | apply Bel.alloc | apply Bel.drew | exact Bel.refl _ | refine Bel.set ?_ (by first | (simp; done) | (simp [go_sem]; done) | omega) _)) : Bel _ _)
set_option maxHeartbeats 2000000 in
theorem sModelText_c (a b c : Int) (w : World) : Calls Tryd.prog 7 #[.agg #[.int .i64 a, .int .i64 b, .int .i64 c]] w (Ret (.string (modelT a b c)) w) := by
  refine hide_ret fun v H => ?_
  have HV := Lib.hid (fun w => l14OkT_c a b c w)
  unfold modelT at H
  rcases hm : modelB a b c with _ | _
  · rw [hm] at HV H
    simp only [Bool.not_true, Bool.not_false, if_true, if_false, Bool.false_eq_true] at H
    clear hm
    go_enter Tryd.func7, Tryd.ntmps7
    go_wp2_with (first | (go_at_call 25; refine Calls.mono (HV.out _) ?_; rintro ee ww ⟨rfl, _, rfl⟩))
    go_ret
    exact Ret.mk H.out (by (repeat (first | with_reducible exact Bel.refl _ | with_reducible assumption | apply Bel.ext | apply Bel.alloc | apply Bel.drew | exact Bel.refl _ | refine Bel.set ?_ (by first | (simp; done) | (simp [go_sem]; done) | omega) _)) : Bel _ _)
  · have hb := modelB_iff.1 hm
    rw [hm] at HV H
    simp only [Bool.not_true, Bool.not_false, if_true, if_false, Bool.false_eq_true] at H
    unfold modelS at H
    have D1 := Lib.hid (fun x => l01Dec_c a (by omega) (by omega) x)
    have D2 := Lib.hid (fun x => l01Dec_c b (by omega) (by omega) x)
    have D3 := Lib.hid (fun x => l01Dec_c c (by omega) (by omega) x)
    have s1 := itoa_size a (by omega) (by omega)
    have s2 := itoa_size b (by omega) (by omega)
    have s3 := itoa_size c (by omega) (by omega)
    generalize textS (Lib.itoa a) = A at *
    generalize textS (Lib.itoa b) = B at *
    generalize textS (Lib.itoa c) = C at *
    clear hm hb
    have q1 : ¬ 9223372036854775807 < 6 + A.size := by omega
    have q2 : ¬ 9223372036854775807 < 6 + A.size + 6 := by omega
    have q3 : ¬ 9223372036854775807 < 6 + A.size + 6 + B.size := by omega
    have q4 : ¬ 9223372036854775807 < 6 + A.size + 6 + B.size + 6 := by omega
    have q5 : ¬ 9223372036854775807 < 6 + A.size + 6 + B.size + 6 + C.size := by omega
    go_enter Tryd.func7, Tryd.ntmps7
    go_wp2_with (first | (go_at_call 25; refine Calls.mono (HV.out _) ?_; rintro ee ww ⟨rfl, _, rfl⟩))
    go_region_held3 (fun q_ => q_.cell? ⟨w.heap.size, 0, none⟩ = some (.int .i64 a) ∧ q_.cell? ⟨w.heap.size, 1, none⟩ = some (.int .i64 b) ∧ q_.cell? ⟨w.heap.size, 2, none⟩ = some (.int .i64 c)) (simp [go_sem, *]) (first | (go_at_call 26; refine args_g1 (.int .i64 a) (by with_reducible rfl) ?_; refine Calls.mono (D1.out _) ?_; rintro ee ww ⟨rfl, _, rfl⟩) | (go_at_call 26; refine args_g1 (.int .i64 b) (by with_reducible rfl) ?_; refine Calls.mono (D2.out _) ?_; rintro ee ww ⟨rfl, _, rfl⟩) | (go_at_call 26; refine args_g1 (.int .i64 c) (by with_reducible rfl) ?_; refine Calls.mono (D3.out _) ?_; rintro ee ww ⟨rfl, _, rfl⟩))
    go_wp2_with fail
    go_ret
    exact Ret.mk H.out (by (repeat (first | with_reducible exact Bel.refl _ | with_reducible assumption | apply Bel.ext | apply Bel.alloc | apply Bel.drew | exact Bel.refl _ | refine Bel.set ?_ (by first | (simp; done) | (simp [go_sem]; done) | omega) _)) : Bel _ _)
end Go.Proofs.YtdneffnnpjgnbacDoor
