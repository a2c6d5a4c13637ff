/- 'FnExactModelSquares' returns true, whatever the model, the ephemeris, the magnitude and the light curve; no condition. -/
import Derived.Test.YtjdcdcfhnpephaaSquares
import Derived.Test.YtjdcdcfhnpephaaRowPoint
import Derived.Test.YtjdcdcfhnpephaaMem
import Derived.Test.YtjdcdcfhnpephaaOpen
namespace Go.Proofs.Ytjdcdcfhnpephaa.lawModelSquares
open Go.ChangeShapes Go.WideShapes Go.ChangeAt Go.RowKit

set_option maxHeartbeats 4000000 in
theorem walk (a b c e p m : Int) (aa : Option Addr) (n cc : Nat) (xs : List (Int × Int)) (w : World) (hs : Sl cel2 w aa n cc xs) :
    Calls Try.prog 9 #[.agg #[.int .i64 a, .int .i64 b, .int .i64 c], .agg #[.int .i64 e, .int .i64 p], .int .i64 m, .slice aa n cc] w (Ret (.bool true) w) := by
  refine hide_ret fun v H => ?_
  have hcap := hs.le; have hmax := hs.cap
  unfold maxLen at hmax
  have HL := Lib.hid hs.len
  have hr : ∀ x, Bel w x → Rd cel2 x (.slice aa n cc) xs := fun x hx => hs.rd.bel hx
  have S1 := Lib.hid (fun u w hu => sModelSquares_c a b c e p m u xs w hu)
  have S2 := Lib.hid (fun u w hu => ModelSquares_c a b c e p m u xs w hu)
  generalize modelSqI a b c e p m xs = s at *
  obtain ⟨s1, s2⟩ := s
  dsimp only at S1 S2
  have e1 : (s1 != s1) = false := by simp
  have e2 : (s2 != s2) = false := by simp
  have hxs : decide (xs = xs) = true := by simp
  by_cases hn : (1048576 : Int) < n
  · go_enter Try.func9, Try.ntmps9
    go_wp2_with (first | (go_at_call 30; refine (szPointS_c _ _ _ _ (by omega) (by omega) (by omega) _).mono ?_; rintro e w' ⟨rfl, rfl⟩))
    all_goals (try ((refine region_ext (by kernel_rfl) (by kernel_rfl) ?_; (repeat (go_big_quiet_step (first | (go_at_call 30; exact Calls.in_same (szPointS_c _ _ _ _ (by omega) (by omega) (by omega) _))))); refine wpQuiet_nil ?_; rintro _ ⟨_, rfl⟩); go_wp2_with (first | (go_at_call 30; refine (szPointS_c _ _ _ _ (by omega) (by omega) (by omega) _).mono ?_; rintro e w' ⟨rfl, rfl⟩))))
    go_ret
    refine Ret.mk ?_ (?_ : Bel _ _)
    · exact H.out
    · (repeat (first | exact Bel.refl _ | apply Bel.ext | apply Bel.alloc | apply Bel.drew | refine Bel.set ?_ (by first | (simp; done) | (simp [go_sem]; done) | omega) _))
  · have hlen : xs.length ≤ 1000000000 := by rw [← HL.out]; omega
    go_enter Try.func9, Try.ntmps9
    go_wp2_with fail
    have hwA : Bel w ((w.alloc (Obj.cells #[.int .i64 a, .int .i64 b, .int .i64 c] 23)).alloc (Obj.cells #[.int .i64 e, .int .i64 p] 33)) := by (repeat (first | exact Bel.refl _ | apply Bel.ext | apply Bel.alloc | apply Bel.drew | refine Bel.set ?_ (by first | (simp; done) | (simp [go_sem]; done) | omega) _))
    have hc0 : ((w.alloc (Obj.cells #[.int .i64 a, .int .i64 b, .int .i64 c] 23)).alloc (Obj.cells #[.int .i64 e, .int .i64 p] 33)).cell? ⟨w.heap.size, 0, none⟩ = some (.int .i64 a) := by simp [go_sem]
    have hc1 : ((w.alloc (Obj.cells #[.int .i64 a, .int .i64 b, .int .i64 c] 23)).alloc (Obj.cells #[.int .i64 e, .int .i64 p] 33)).cell? ⟨w.heap.size, 1, none⟩ = some (.int .i64 b) := by simp [go_sem]
    have hc2 : ((w.alloc (Obj.cells #[.int .i64 a, .int .i64 b, .int .i64 c] 23)).alloc (Obj.cells #[.int .i64 e, .int .i64 p] 33)).cell? ⟨w.heap.size, 2, none⟩ = some (.int .i64 c) := by simp [go_sem]
    have hc3 : ((w.alloc (Obj.cells #[.int .i64 a, .int .i64 b, .int .i64 c] 23)).alloc (Obj.cells #[.int .i64 e, .int .i64 p] 33)).cell? ⟨w.heap.size + 1, 0, none⟩ = some (.int .i64 e) := by simp [go_sem]
    have hc4 : ((w.alloc (Obj.cells #[.int .i64 a, .int .i64 b, .int .i64 c] 23)).alloc (Obj.cells #[.int .i64 e, .int .i64 p] 33)).cell? ⟨w.heap.size + 1, 1, none⟩ = some (.int .i64 p) := by simp [go_sem]
    have hz0 : w.heap.size < ((w.alloc (Obj.cells #[.int .i64 a, .int .i64 b, .int .i64 c] 23)).alloc (Obj.cells #[.int .i64 e, .int .i64 p] 33)).heap.size := by first | (simp; done) | (simp; omega)
    have hz1 : w.heap.size + 1 < ((w.alloc (Obj.cells #[.int .i64 a, .int .i64 b, .int .i64 c] 23)).alloc (Obj.cells #[.int .i64 e, .int .i64 p] 33)).heap.size := by first | (simp; done) | (simp; omega)
    generalize ((w.alloc (Obj.cells #[.int .i64 a, .int .i64 b, .int .i64 c] 23)).alloc (Obj.cells #[.int .i64 e, .int .i64 p] 33)) = A at *
    have hM := mem_nil A
    have hrA : ∀ x, Bel A x → Rd cel2 x (.slice aa n cc) xs := fun x hx => hr x (Below.trans hwA (Below.mono hx hwA.size))
    go_wp2_with (first | (go_at_call 30; refine Calls.mono (mem_ret hM ?_ (same_ret (szPointS_c _ _ _ _ (by omega) (by omega) (by omega) _))) ?_; (focus (repeat (first | exact Bel.refl _ | apply Bel.ext | apply Bel.alloc | apply Bel.drew))); rintro e w' ⟨rfl, _, rfl, hM⟩))
    go_region_held3 (fun x => x.cell? ⟨w.heap.size, 0, none⟩ = some (.int .i64 a) ∧ x.cell? ⟨w.heap.size, 1, none⟩ = some (.int .i64 b) ∧ x.cell? ⟨w.heap.size, 2, none⟩ = some (.int .i64 c) ∧ x.cell? ⟨w.heap.size + 1, 0, none⟩ = some (.int .i64 e) ∧ x.cell? ⟨w.heap.size + 1, 1, none⟩ = some (.int .i64 p)) (simp [go_sem, *]) (first | (go_at_call 13; refine Calls.mono (mem_ret hM ?_ (toModel_c _ _ _ _)) ?_; (focus (repeat (first | exact Bel.refl _ | apply Bel.ext | apply Bel.alloc | apply Bel.drew))); rintro e w' ⟨rfl, _, rfl, hM⟩) | (go_at_call 20; refine Calls.mono (mem_ret hM ?_ (toEphemeris_c _ _ _)) ?_; (focus (repeat (first | exact Bel.refl _ | apply Bel.ext | apply Bel.alloc | apply Bel.drew))); rintro e w' ⟨rfl, _, rfl, hM⟩) | (go_at_call 32; refine Calls.mono (mem_row hM ?_ (toPointS_c _ xs _ (hrA _ ?_) hlen)) ?_; (focus (repeat (first | exact Bel.refl _ | apply Bel.ext | apply Bel.alloc | apply Bel.drew))); (focus (repeat (first | exact Bel.refl _ | apply Bel.ext | apply Bel.alloc | apply Bel.drew))); rintro e w' ⟨v0, _, rfl, rfl, hM⟩) | (go_at_call 31; refine Calls.mono (mem_ret hM ?_ (S1.out _ _ ?_)) ?_; (focus (repeat (first | exact Bel.refl _ | apply Bel.ext | apply Bel.alloc | apply Bel.drew))); (focus (first | exact Rd.bel (rd_of hM 0 rfl) (by (repeat (first | exact Bel.refl _ | apply Bel.ext | apply Bel.alloc | apply Bel.drew))) | exact Rd.bel (rd_of hM 1 rfl) (by (repeat (first | exact Bel.refl _ | apply Bel.ext | apply Bel.alloc | apply Bel.drew))) | exact Rd.bel (rd_of hM 2 rfl) (by (repeat (first | exact Bel.refl _ | apply Bel.ext | apply Bel.alloc | apply Bel.drew))) | exact Rd.bel (rd_of hM 3 rfl) (by (repeat (first | exact Bel.refl _ | apply Bel.ext | apply Bel.alloc | apply Bel.drew))) | exact Rd.bel (rd_of hM 4 rfl) (by (repeat (first | exact Bel.refl _ | apply Bel.ext | apply Bel.alloc | apply Bel.drew))) | exact Rd.bel (rd_of hM 5 rfl) (by (repeat (first | exact Bel.refl _ | apply Bel.ext | apply Bel.alloc | apply Bel.drew))) | exact Rd.bel (rd_of hM 6 rfl) (by (repeat (first | exact Bel.refl _ | apply Bel.ext | apply Bel.alloc | apply Bel.drew))) | exact Rd.bel (rd_of hM 7 rfl) (by (repeat (first | exact Bel.refl _ | apply Bel.ext | apply Bel.alloc | apply Bel.drew))) | exact Rd.bel (rd_of hM 8 rfl) (by (repeat (first | exact Bel.refl _ | apply Bel.ext | apply Bel.alloc | apply Bel.drew))) | exact Rd.bel (rd_of hM 9 rfl) (by (repeat (first | exact Bel.refl _ | apply Bel.ext | apply Bel.alloc | apply Bel.drew))) | exact Rd.bel (rd_of hM 10 rfl) (by (repeat (first | exact Bel.refl _ | apply Bel.ext | apply Bel.alloc | apply Bel.drew))) | exact Rd.bel (rd_of hM 11 rfl) (by (repeat (first | exact Bel.refl _ | apply Bel.ext | apply Bel.alloc | apply Bel.drew))))); rintro e w' ⟨rfl, _, rfl, hM⟩))
    go_wp2_with (first | (go_at_call 32; refine Calls.mono (mem_row hM ?_ (toPointS_c _ xs _ (hrA _ ?_) hlen)) ?_; (focus (repeat (first | exact Bel.refl _ | apply Bel.ext | apply Bel.alloc | apply Bel.drew))); (focus (repeat (first | exact Bel.refl _ | apply Bel.ext | apply Bel.alloc | apply Bel.drew))); rintro e w' ⟨v1, _, rfl, rfl, hM⟩))
    go_region_held3 (fun x => x.cell? ⟨w.heap.size, 0, none⟩ = some (.int .i64 a) ∧ x.cell? ⟨w.heap.size, 1, none⟩ = some (.int .i64 b) ∧ x.cell? ⟨w.heap.size, 2, none⟩ = some (.int .i64 c) ∧ x.cell? ⟨w.heap.size + 1, 0, none⟩ = some (.int .i64 e) ∧ x.cell? ⟨w.heap.size + 1, 1, none⟩ = some (.int .i64 p)) (simp [go_sem, *]) (first | (go_at_call 13; refine Calls.mono (mem_ret hM ?_ (toModel_c _ _ _ _)) ?_; (focus (repeat (first | exact Bel.refl _ | apply Bel.ext | apply Bel.alloc | apply Bel.drew))); rintro e w' ⟨rfl, _, rfl, hM⟩) | (go_at_call 20; refine Calls.mono (mem_ret hM ?_ (toEphemeris_c _ _ _)) ?_; (focus (repeat (first | exact Bel.refl _ | apply Bel.ext | apply Bel.alloc | apply Bel.drew))); rintro e w' ⟨rfl, _, rfl, hM⟩) | (go_at_call 33; refine Calls.mono (mem_ret hM ?_ (S2.out _ _ ?_)) ?_; (focus (repeat (first | exact Bel.refl _ | apply Bel.ext | apply Bel.alloc | apply Bel.drew))); (focus (first | exact Rd.bel (rd_of hM 0 rfl) (by (repeat (first | exact Bel.refl _ | apply Bel.ext | apply Bel.alloc | apply Bel.drew))) | exact Rd.bel (rd_of hM 1 rfl) (by (repeat (first | exact Bel.refl _ | apply Bel.ext | apply Bel.alloc | apply Bel.drew))) | exact Rd.bel (rd_of hM 2 rfl) (by (repeat (first | exact Bel.refl _ | apply Bel.ext | apply Bel.alloc | apply Bel.drew))) | exact Rd.bel (rd_of hM 3 rfl) (by (repeat (first | exact Bel.refl _ | apply Bel.ext | apply Bel.alloc | apply Bel.drew))) | exact Rd.bel (rd_of hM 4 rfl) (by (repeat (first | exact Bel.refl _ | apply Bel.ext | apply Bel.alloc | apply Bel.drew))) | exact Rd.bel (rd_of hM 5 rfl) (by (repeat (first | exact Bel.refl _ | apply Bel.ext | apply Bel.alloc | apply Bel.drew))) | exact Rd.bel (rd_of hM 6 rfl) (by (repeat (first | exact Bel.refl _ | apply Bel.ext | apply Bel.alloc | apply Bel.drew))) | exact Rd.bel (rd_of hM 7 rfl) (by (repeat (first | exact Bel.refl _ | apply Bel.ext | apply Bel.alloc | apply Bel.drew))) | exact Rd.bel (rd_of hM 8 rfl) (by (repeat (first | exact Bel.refl _ | apply Bel.ext | apply Bel.alloc | apply Bel.drew))) | exact Rd.bel (rd_of hM 9 rfl) (by (repeat (first | exact Bel.refl _ | apply Bel.ext | apply Bel.alloc | apply Bel.drew))) | exact Rd.bel (rd_of hM 10 rfl) (by (repeat (first | exact Bel.refl _ | apply Bel.ext | apply Bel.alloc | apply Bel.drew))) | exact Rd.bel (rd_of hM 11 rfl) (by (repeat (first | exact Bel.refl _ | apply Bel.ext | apply Bel.alloc | apply Bel.drew))))); rintro e w' ⟨rfl, _, rfl, hM⟩))
    go_wp2_with (first | (go_at_call 32; refine Calls.mono (mem_row hM ?_ (toPointS_c _ xs _ (hrA _ ?_) hlen)) ?_; (focus (repeat (first | exact Bel.refl _ | apply Bel.ext | apply Bel.alloc | apply Bel.drew))); (focus (repeat (first | exact Bel.refl _ | apply Bel.ext | apply Bel.alloc | apply Bel.drew))); rintro e w' ⟨v2, _, rfl, rfl, hM⟩) | (go_at_call 34; refine Calls.mono (mem_ret hM ?_ (eqPointS_c _ _ xs xs _ ?_ ?_)) ?_; (focus (repeat (first | exact Bel.refl _ | apply Bel.ext | apply Bel.alloc | apply Bel.drew))); (focus (first | exact Rd.bel (rd_of hM 0 rfl) (by (repeat (first | exact Bel.refl _ | apply Bel.ext | apply Bel.alloc | apply Bel.drew))) | exact Rd.bel (rd_of hM 1 rfl) (by (repeat (first | exact Bel.refl _ | apply Bel.ext | apply Bel.alloc | apply Bel.drew))) | exact Rd.bel (rd_of hM 2 rfl) (by (repeat (first | exact Bel.refl _ | apply Bel.ext | apply Bel.alloc | apply Bel.drew))) | exact Rd.bel (rd_of hM 3 rfl) (by (repeat (first | exact Bel.refl _ | apply Bel.ext | apply Bel.alloc | apply Bel.drew))) | exact Rd.bel (rd_of hM 4 rfl) (by (repeat (first | exact Bel.refl _ | apply Bel.ext | apply Bel.alloc | apply Bel.drew))) | exact Rd.bel (rd_of hM 5 rfl) (by (repeat (first | exact Bel.refl _ | apply Bel.ext | apply Bel.alloc | apply Bel.drew))) | exact Rd.bel (rd_of hM 6 rfl) (by (repeat (first | exact Bel.refl _ | apply Bel.ext | apply Bel.alloc | apply Bel.drew))) | exact Rd.bel (rd_of hM 7 rfl) (by (repeat (first | exact Bel.refl _ | apply Bel.ext | apply Bel.alloc | apply Bel.drew))) | exact Rd.bel (rd_of hM 8 rfl) (by (repeat (first | exact Bel.refl _ | apply Bel.ext | apply Bel.alloc | apply Bel.drew))) | exact Rd.bel (rd_of hM 9 rfl) (by (repeat (first | exact Bel.refl _ | apply Bel.ext | apply Bel.alloc | apply Bel.drew))) | exact Rd.bel (rd_of hM 10 rfl) (by (repeat (first | exact Bel.refl _ | apply Bel.ext | apply Bel.alloc | apply Bel.drew))) | exact Rd.bel (rd_of hM 11 rfl) (by (repeat (first | exact Bel.refl _ | apply Bel.ext | apply Bel.alloc | apply Bel.drew))))); (focus (first | exact Rd.bel (rd_of hM 0 rfl) (by (repeat (first | exact Bel.refl _ | apply Bel.ext | apply Bel.alloc | apply Bel.drew))) | exact Rd.bel (rd_of hM 1 rfl) (by (repeat (first | exact Bel.refl _ | apply Bel.ext | apply Bel.alloc | apply Bel.drew))) | exact Rd.bel (rd_of hM 2 rfl) (by (repeat (first | exact Bel.refl _ | apply Bel.ext | apply Bel.alloc | apply Bel.drew))) | exact Rd.bel (rd_of hM 3 rfl) (by (repeat (first | exact Bel.refl _ | apply Bel.ext | apply Bel.alloc | apply Bel.drew))) | exact Rd.bel (rd_of hM 4 rfl) (by (repeat (first | exact Bel.refl _ | apply Bel.ext | apply Bel.alloc | apply Bel.drew))) | exact Rd.bel (rd_of hM 5 rfl) (by (repeat (first | exact Bel.refl _ | apply Bel.ext | apply Bel.alloc | apply Bel.drew))) | exact Rd.bel (rd_of hM 6 rfl) (by (repeat (first | exact Bel.refl _ | apply Bel.ext | apply Bel.alloc | apply Bel.drew))) | exact Rd.bel (rd_of hM 7 rfl) (by (repeat (first | exact Bel.refl _ | apply Bel.ext | apply Bel.alloc | apply Bel.drew))) | exact Rd.bel (rd_of hM 8 rfl) (by (repeat (first | exact Bel.refl _ | apply Bel.ext | apply Bel.alloc | apply Bel.drew))) | exact Rd.bel (rd_of hM 9 rfl) (by (repeat (first | exact Bel.refl _ | apply Bel.ext | apply Bel.alloc | apply Bel.drew))) | exact Rd.bel (rd_of hM 10 rfl) (by (repeat (first | exact Bel.refl _ | apply Bel.ext | apply Bel.alloc | apply Bel.drew))) | exact Rd.bel (rd_of hM 11 rfl) (by (repeat (first | exact Bel.refl _ | apply Bel.ext | apply Bel.alloc | apply Bel.drew))))); rintro e w' ⟨rfl, _, rfl, hM⟩))
    go_ret
    refine ⟨H.out ▸ rfl, ext_ex ?_⟩
    exact Below.trans hwA (Below.mono ((Bel.refl A).ext _) hwA.size)

set_option maxRecDepth 100000 in
theorem lifted (os : Os) (started : os.Started) (H : Type) (enc : TypeId × Value → H) :
    ReturnsInHanded {} Try.checked os 9 .any (Rows.fnExactModelSquaresSpec.pre6 enc Try.prog Try.f9 Rows.fnExactModelSquaresRow.domain false) (Rows.fnExactModelSquaresSpec.post enc Try.prog Try.f9 false true false false) := by
  refine returnsInHanded_of_change (C := Try.checked) own started (by kernel_rfl) Try.func9
    (ChangeSpec.witness6 (enc := enc) (C := Try.checked) false ⟨#[], #[.agg #[.int .i64 0, .int .i64 0, .int .i64 0], .agg #[.int .i64 0, .int .i64 0], .int .i64 0, .slice none 0 0], []⟩ 8 (by kernel_rfl) (by kernel_rfl) (by kernel_rfl) (by kernel_rfl)) ?_
  intro W base args ds gs before hval0 hW _ _
  have hval : ∀ (j : Nat) t v, Try.f9.params[j]? = some t → args[j]? = some v → Value.okWide Try.prog W .any base t v := hval0
  have hW' := hW
  obtain ⟨p, q, hA0, hV, rfl, hfz, hnd⟩ := hW
  have hA : DataW.TrodAll enc Try.prog W 0 (fun _ => true) true Try.f9.params.toList args.toList ds p := hA0
  have hlt : ∀ x ∈ p, x.block < W.heap.size := fun x hx => hW'.lt x (by simp [hx])
  rw [Try.params9] at hA hval
  have hK := hA
  obtain ⟨v0, vs0, d0, ds0, p0, q0, hargs, rfl, rfl, h0, r0⟩ := trodAll_cons hA
  obtain ⟨v1, vs1, d1, ds1, p1, q1, rfl, rfl, rfl, h1, r1⟩ := trodAll_cons r0
  obtain ⟨v2, vs2, d2, ds2, p2, q2, rfl, rfl, rfl, h2, r2⟩ := trodAll_cons r1
  obtain ⟨v3, vs3, d3, ds3, p3, q3, rfl, rfl, rfl, h3, r3⟩ := trodAll_cons r2
  obtain ⟨rfl, rfl, rfl⟩ := trodAll_nil r3
  obtain rfl : args = #[v0, v1, v2, v3] := by cases args; simp_all
  obtain ⟨rfl, rfl⟩ := trodVars_none hV
  obtain ⟨c00, c01, c02, y00, y01, y02, m0, rfl, -, -, hy00, hy01, hy02⟩ := Go.Joins.open_agg3 Try.underlying23 (by kernel_rfl) (by kernel_rfl) (hval 0 23 v0 rfl rfl) h0
  obtain ⟨x00, e00, -, w00⟩ := DataW.trod_int Try.underlying2 hy00
  obtain rfl : c00 = .int .i64 x00 := by simpa using e00
  obtain ⟨x01, e01, -, w01⟩ := DataW.trod_int Try.underlying2 hy01
  obtain rfl : c01 = .int .i64 x01 := by simpa using e01
  obtain ⟨x02, e02, -, w02⟩ := DataW.trod_int Try.underlying2 hy02
  obtain rfl : c02 = .int .i64 x02 := by simpa using e02
  obtain ⟨c10, c11, y10, y11, m1, rfl, -, -, hy10, hy11⟩ := Go.Joins.open_agg2 Try.underlying33 (by kernel_rfl) (by kernel_rfl) (hval 1 33 v1 rfl rfl) h1
  obtain ⟨x10, e10, -, w10⟩ := DataW.trod_int Try.underlying2 hy10
  obtain rfl : c10 = .int .i64 x10 := by simpa using e10
  obtain ⟨x11, e11, -, w11⟩ := DataW.trod_int Try.underlying2 hy11
  obtain rfl : c11 = .int .i64 x11 := by simpa using e11
  obtain ⟨x2, rfl, -, -, w2⟩ := open_int Try.underlying2 (hval 2 2 v2 rfl rfl) h2
  obtain ⟨a3, n3, cp3, xs3, rfl, hs3⟩ := open_sl2 Try.underlying50 Try.underlying88 (by kernel_rfl) rfl rfl (by kernel_rfl) (by kernel_rfl) (by kernel_rfl) (by kernel_rfl) (hval 3 50 v3 rfl rfl) h3
  refine (walk x00 x01 x02 x10 x11 x2 a3 n3 cp3 xs3 W hs3).mono fun e W' ⟨he, g, hg⟩ => ?_
  subst he
  have hb : Below W.heap.size W W' := by rw [hg]; exact ext_below W g
  have hARG := trodAll_below hb _ (by kernel_rfl) hlt hK
  exact ⟨_, rfl, [d0, d1, d2, d3], [], _, [], p0 ++ (p1 ++ (p2 ++ (p3 ++ ([])))), [], hW', trodAll_cons_mk (shut_bool Try.underlying4 _) trodAll_mk0, hARG, rfl, hb.frame _, fun h => by cases h⟩

theorem over : Rows.fnExactModelSquaresRow.holds Try.pinned (OpenSpec.ofChange Rows.fnExactModelSquaresSpec) :=
  OpenClaim.holds_of_wide 9 Try.f9 rfl rfl rfl rfl rfl rfl rfl ⟨rfl, rfl, rfl, rfl, rfl⟩ rfl rfl rfl rfl rfl (by kernel_rfl) Try.func9 (by kernel_rfl)
    (of_decide_eq_true (by kernel_rfl)) (by unfold Func.isWrapper; first | (rw [if_pos (by decide +kernel)]; kernel_rfl) | (rw [if_neg (by decide +kernel)]; exact ⟨rfl, rfl⟩))
    (fun os started H enc _ => lifted os started H enc)

theorem proved : Rows.FnExactModelSquaresSaid := over
end Go.Proofs.Ytjdcdcfhnpephaa.lawModelSquares
