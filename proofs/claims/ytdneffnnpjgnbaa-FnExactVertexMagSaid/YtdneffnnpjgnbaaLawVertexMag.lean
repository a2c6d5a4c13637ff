/- 'FnExactVertexMag' returns true, whatever the points; no condition. -/
import Derived.Test.YtdneffnnpjgnbaaVert4
import Derived.Test.YtdneffnnpjgnbaaVertS2
import Derived.Test.YtdneffnnpjgnbaaMem
import Derived.Test.YtdneffnnpjgnbaaRowPoint
import Derived.Test.YtdneffnnpjgnbaaLift
namespace Go.Proofs.Ytdneffnnpjgnbaa.lawVertexMag
open Go.ChangeShapes Go.WideShapes Go.ChangeAt Go.RowKit

set_option maxHeartbeats 8000000 in
theorem walk (aT aM bT bM cT cM : Int) (w : World) :
    Calls Try.prog 6 #[.agg #[.int .i64 aT, .int .i64 aM], .agg #[.int .i64 bT, .int .i64 bM], .agg #[.int .i64 cT, .int .i64 cM]] w (Ret (.bool true) w) := by
  refine hide_ret fun v H => ?_
  have S1 := Lib.hid (fun w => sVertexMag_c aT aM bT bM cT cM w)
  have S2 := Lib.hid (fun w => VertexMag_c aT aM bT bM cT cM w)
  generalize vertI aT aM bT bM cT cM = m at *
  obtain ⟨s1, s2⟩ := m
  dsimp only at S1 S2
  have hq1 : (s1 != s1) = false := by simp
  have hq2 : (s2 != s2) = false := by simp
  go_enter Try.func6, Try.ntmps6
  go_wp2_with fail
  have hwA : Bel w (((w.alloc (Obj.cells #[.int .i64 aT, .int .i64 aM] 43)).alloc (Obj.cells #[.int .i64 bT, .int .i64 bM] 43)).alloc (Obj.cells #[.int .i64 cT, .int .i64 cM] 43)) := by (repeat (first | with_reducible exact Bel.refl _ | with_reducible assumption | apply Bel.ext | apply Bel.alloc | apply Bel.drew | exact Bel.refl _ | refine Bel.set ?_ (by first | (simp; done) | (simp [go_sem]; done) | omega) _))
  have hc0 : (((w.alloc (Obj.cells #[.int .i64 aT, .int .i64 aM] 43)).alloc (Obj.cells #[.int .i64 bT, .int .i64 bM] 43)).alloc (Obj.cells #[.int .i64 cT, .int .i64 cM] 43)).cell? ⟨w.heap.size, 0, none⟩ = some (.int .i64 aT) := by simp [go_sem]
  have hc1 : (((w.alloc (Obj.cells #[.int .i64 aT, .int .i64 aM] 43)).alloc (Obj.cells #[.int .i64 bT, .int .i64 bM] 43)).alloc (Obj.cells #[.int .i64 cT, .int .i64 cM] 43)).cell? ⟨w.heap.size, 1, none⟩ = some (.int .i64 aM) := by simp [go_sem]
  have hc2 : (((w.alloc (Obj.cells #[.int .i64 aT, .int .i64 aM] 43)).alloc (Obj.cells #[.int .i64 bT, .int .i64 bM] 43)).alloc (Obj.cells #[.int .i64 cT, .int .i64 cM] 43)).cell? ⟨w.heap.size + 1, 0, none⟩ = some (.int .i64 bT) := by simp [go_sem]
  have hc3 : (((w.alloc (Obj.cells #[.int .i64 aT, .int .i64 aM] 43)).alloc (Obj.cells #[.int .i64 bT, .int .i64 bM] 43)).alloc (Obj.cells #[.int .i64 cT, .int .i64 cM] 43)).cell? ⟨w.heap.size + 1, 1, none⟩ = some (.int .i64 bM) := by simp [go_sem]
  have hc4 : (((w.alloc (Obj.cells #[.int .i64 aT, .int .i64 aM] 43)).alloc (Obj.cells #[.int .i64 bT, .int .i64 bM] 43)).alloc (Obj.cells #[.int .i64 cT, .int .i64 cM] 43)).cell? ⟨w.heap.size + 2, 0, none⟩ = some (.int .i64 cT) := by simp [go_sem]
  have hc5 : (((w.alloc (Obj.cells #[.int .i64 aT, .int .i64 aM] 43)).alloc (Obj.cells #[.int .i64 bT, .int .i64 bM] 43)).alloc (Obj.cells #[.int .i64 cT, .int .i64 cM] 43)).cell? ⟨w.heap.size + 2, 1, none⟩ = some (.int .i64 cM) := by simp [go_sem]
  have hz0 : w.heap.size < (((w.alloc (Obj.cells #[.int .i64 aT, .int .i64 aM] 43)).alloc (Obj.cells #[.int .i64 bT, .int .i64 bM] 43)).alloc (Obj.cells #[.int .i64 cT, .int .i64 cM] 43)).heap.size := by first | (simp; done) | (simp; omega)
  have hz1 : w.heap.size + 1 < (((w.alloc (Obj.cells #[.int .i64 aT, .int .i64 aM] 43)).alloc (Obj.cells #[.int .i64 bT, .int .i64 bM] 43)).alloc (Obj.cells #[.int .i64 cT, .int .i64 cM] 43)).heap.size := by first | (simp; done) | (simp; omega)
  have hz2 : w.heap.size + 2 < (((w.alloc (Obj.cells #[.int .i64 aT, .int .i64 aM] 43)).alloc (Obj.cells #[.int .i64 bT, .int .i64 bM] 43)).alloc (Obj.cells #[.int .i64 cT, .int .i64 cM] 43)).heap.size := by first | (simp; done) | (simp; omega)
  generalize (((w.alloc (Obj.cells #[.int .i64 aT, .int .i64 aM] 43)).alloc (Obj.cells #[.int .i64 bT, .int .i64 bM] 43)).alloc (Obj.cells #[.int .i64 cT, .int .i64 cM] 43)) = A at *
  have hM := mem_nil A
  clear hM
  have hc4' : A.cell? ⟨w.heap.size + 1 + 1, 0, none⟩ = some (.int .i64 cT) := hc4
  have hc5' : A.cell? ⟨w.heap.size + 1 + 1, 1, none⟩ = some (.int .i64 cM) := hc5
  have hz2' : w.heap.size + 1 + 1 < A.heap.size := hz2
  go_region_held3 (fun q_ => q_.cell? ⟨w.heap.size, 0, none⟩ = some (.int .i64 aT) ∧ q_.cell? ⟨w.heap.size, 1, none⟩ = some (.int .i64 aM) ∧ q_.cell? ⟨w.heap.size + 1, 0, none⟩ = some (.int .i64 bT) ∧ q_.cell? ⟨w.heap.size + 1, 1, none⟩ = some (.int .i64 bM) ∧ q_.cell? ⟨w.heap.size + 1 + 1, 0, none⟩ = some (.int .i64 cT) ∧ q_.cell? ⟨w.heap.size + 1 + 1, 1, none⟩ = some (.int .i64 cM)) (simp [go_sem, *]) (first | (go_at_call 20; refine Calls.mono (toPoint_c _ _ _) ?_; rintro ee ww ⟨rfl, _, rfl⟩) | (go_at_call 19; refine Calls.mono (S1.out _) ?_; rintro ee ww ⟨rfl, _, rfl⟩))
  go_wp2_with fail
  go_region_held3 (fun q_ => q_.cell? ⟨w.heap.size, 0, none⟩ = some (.int .i64 aT) ∧ q_.cell? ⟨w.heap.size, 1, none⟩ = some (.int .i64 aM) ∧ q_.cell? ⟨w.heap.size + 1, 0, none⟩ = some (.int .i64 bT) ∧ q_.cell? ⟨w.heap.size + 1, 1, none⟩ = some (.int .i64 bM) ∧ q_.cell? ⟨w.heap.size + 1 + 1, 0, none⟩ = some (.int .i64 cT) ∧ q_.cell? ⟨w.heap.size + 1 + 1, 1, none⟩ = some (.int .i64 cM)) (simp [go_sem, *]) (first | (go_at_call 20; refine Calls.mono (toPoint_c _ _ _) ?_; rintro ee ww ⟨rfl, _, rfl⟩) | (go_at_call 21; refine Calls.mono (S2.out _) ?_; rintro ee ww ⟨rfl, _, rfl⟩))
  go_wp2_with fail
  go_ret
  refine ⟨H.out ▸ rfl, ext_ex ?_⟩
  exact Below.trans hwA (Below.mono (by (repeat (first | with_reducible exact Bel.refl _ | with_reducible assumption | apply Bel.ext | apply Bel.alloc | apply Bel.drew | exact Bel.refl _ | refine Bel.set ?_ (by first | (simp; done) | (simp [go_sem]; done) | omega) _)) : Bel A _) hwA.size)

set_option maxRecDepth 100000 in
theorem lifted (os : Os) (started : os.Started) (H : Type) (enc : TypeId × Value → H) :
    ReturnsInHanded {} Try.checked os 6 .any (Rows.fnExactVertexMagSpec.pre6 enc Try.prog Try.f6 Rows.fnExactVertexMagRow.domain false) (Rows.fnExactVertexMagSpec.post enc Try.prog Try.f6 false true false false) := by
  refine returnsInHanded_of_change (C := Try.checked) own started (by kernel_rfl) Try.func6
    (ChangeSpec.witness6 (enc := enc) (C := Try.checked) false ⟨#[], #[.agg #[.int .i64 0, .int .i64 0], .agg #[.int .i64 0, .int .i64 0], .agg #[.int .i64 0, .int .i64 0]], []⟩ 8 (by kernel_rfl) (by kernel_rfl) (by kernel_rfl) (by kernel_rfl)) ?_
  intro W base args ds gs before hval0 hW _ _
  have hval : ∀ (j : Nat) t v, Try.f6.params[j]? = some t → args[j]? = some v → Value.okWide Try.prog W .any base t v := hval0
  have hW' := hW
  obtain ⟨p, q, hA0, hV, rfl, hfz, hnd⟩ := hW
  have hA : DataW.TrodAll enc Try.prog W 0 (fun _ => true) true Try.f6.params.toList args.toList ds p := hA0
  have hlt : ∀ x ∈ p, x.block < W.heap.size := fun x hx => hW'.lt x (by simp [hx])
  rw [Try.params6] at hA hval
  have hK := hA
  obtain ⟨v0, vs0, d0, ds0, p0, q0, hargs, rfl, rfl, h0, r0⟩ := trodAll_cons hA
  obtain ⟨v1, vs1, d1, ds1, p1, q1, rfl, rfl, rfl, h1, r1⟩ := trodAll_cons r0
  obtain ⟨v2, vs2, d2, ds2, p2, q2, rfl, rfl, rfl, h2, r2⟩ := trodAll_cons r1
  obtain ⟨rfl, rfl, rfl⟩ := trodAll_nil r2
  obtain rfl : args = #[v0, v1, v2] := by cases args; simp_all
  obtain ⟨rfl, rfl⟩ := trodVars_none hV
  obtain ⟨c00, c01, y00, y01, m0, rfl, -, -, hy00, hy01⟩ := Go.Joins.open_agg2 Try.underlying43 (by kernel_rfl) (by kernel_rfl) (hval 0 43 v0 rfl rfl) h0
  obtain ⟨x00, e00, -, w00⟩ := DataW.trod_int Try.underlying2 hy00
  obtain rfl : c00 = .int .i64 x00 := by simpa using e00
  obtain ⟨x01, e01, -, w01⟩ := DataW.trod_int Try.underlying2 hy01
  obtain rfl : c01 = .int .i64 x01 := by simpa using e01
  obtain ⟨c10, c11, y10, y11, m1, rfl, -, -, hy10, hy11⟩ := Go.Joins.open_agg2 Try.underlying43 (by kernel_rfl) (by kernel_rfl) (hval 1 43 v1 rfl rfl) h1
  obtain ⟨x10, e10, -, w10⟩ := DataW.trod_int Try.underlying2 hy10
  obtain rfl : c10 = .int .i64 x10 := by simpa using e10
  obtain ⟨x11, e11, -, w11⟩ := DataW.trod_int Try.underlying2 hy11
  obtain rfl : c11 = .int .i64 x11 := by simpa using e11
  obtain ⟨c20, c21, y20, y21, m2, rfl, -, -, hy20, hy21⟩ := Go.Joins.open_agg2 Try.underlying43 (by kernel_rfl) (by kernel_rfl) (hval 2 43 v2 rfl rfl) h2
  obtain ⟨x20, e20, -, w20⟩ := DataW.trod_int Try.underlying2 hy20
  obtain rfl : c20 = .int .i64 x20 := by simpa using e20
  obtain ⟨x21, e21, -, w21⟩ := DataW.trod_int Try.underlying2 hy21
  obtain rfl : c21 = .int .i64 x21 := by simpa using e21
  refine (walk x00 x01 x10 x11 x20 x21 W).mono fun e W' ⟨he, g, hg⟩ => ?_
  subst he
  have hb : Below W.heap.size W W' := by rw [hg]; exact ext_below W g
  have hARG := trodAll_below hb _ (by kernel_rfl) hlt hK
  exact ⟨_, rfl, [d0, d1, d2], [], _, [], p0 ++ (p1 ++ (p2 ++ ([]))), [], hW', trodAll_cons_mk (shut_bool Try.underlying4 _) trodAll_mk0, hARG, rfl, hb.frame _, fun h => by cases h⟩

theorem over : Rows.fnExactVertexMagRow.holds Try.pinned (OpenSpec.ofChange Rows.fnExactVertexMagSpec) :=
  OpenClaim.holds_of_wide 6 Try.f6 rfl rfl rfl rfl rfl rfl rfl ⟨rfl, rfl, rfl, rfl, rfl⟩ rfl rfl rfl rfl rfl (by kernel_rfl) Try.func6 (by kernel_rfl)
    (of_decide_eq_true (by kernel_rfl)) (by unfold Func.isWrapper; first | (rw [if_pos (by decide +kernel)]; kernel_rfl) | (rw [if_neg (by decide +kernel)]; exact ⟨rfl, rfl⟩))
    (fun os started H enc _ => lifted os started H enc)

theorem proved : Rows.FnExactVertexMagSaid := over
end Go.Proofs.Ytdneffnnpjgnbaa.lawVertexMag
