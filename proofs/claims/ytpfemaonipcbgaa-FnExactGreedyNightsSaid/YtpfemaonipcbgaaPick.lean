/- Rows of rows of bools; the reference's search for a list of windows that shows all bins. -/
import Derived.Test.YtpfemaonipcbgaaFew
import Derived.Test.YtpfemaonipcbgaaBins2
import Derived.Test.YtpfemaonipcbgaaWhole2
import Derived.Deep.AppendLies
namespace Go.Proofs.Ytpfemaonipcbgaa
open Go.RowKit

theorem mem_own_add {W X x : World} {L : List Ent} (h : Mem W X L) (hb : Bel X x) (v : Value) (e : TypeId) (size n : Nat) (cs : List Value) (ho : x.ownsRow X.heap.size e size v n cs) : Mem W x (L ++ [⟨v, e, size, n, cs⟩]) := by
  refine mem_snoc (mem_bel h hb) _ (own_mono ho h.bel.size) fun j s hj b hb1 hb2 => ?_
  have h1 := ((h.own j s hj).lt b hb1).2
  have h2 := (ho.lt b hb2).1
  omega
/-- append onto row i of the call's own, as a step of a region that draws its order: the other rows stay -/
theorem step_append_mem {P : Program} {ops : Array Oper} {o : Oper} {a : Act} {Y : World} {K : Act → World → Prop} {Q : Exit → Act → World → Prop} {E : Prop} (hgd : o.guard = none) (s x : Operand) (t e : TypeId) (size bytes : Nat)
    (ho : o.op = .call { callee := .builtin .append, args := #[s, x], argTypes := #[t, t] }) (F : AppF P t e size bytes) (hsz : 0 < size)
    (W : World) (L : List Ent) (i : Nat) (v : Value) (n : Nat) (xs : List Value) (hi : L[i]? = some ⟨v, e, size, n, xs⟩) (news : List Value) (hs : a.eval s = v) (b : Nat) (hx : a.eval x = .slice (some ⟨b, 0, none⟩) 1 1) (hl : news.length = 1 * size) (h1 : ∀ u ∈ news, u.oneCell' = true)
    (hnews : ∀ j u, news[j]? = some u → Y.cell? ⟨b, j, none⟩ = some u)
    (hM : Mem W Y L) (h63 : n + 1 ≤ 1000000000000) (hby : bytes ≤ 100)
    (h : ∀ g cap z, Mem W (ext W z) (L.set i ⟨.slice (some ⟨g, 0, none⟩) (n + 1) cap, e, size, n + 1, xs ++ news⟩) → K (a.put o.dst (.slice (some ⟨g, 0, none⟩) (n + 1) cap)) (ext W z)) :
    if Region.wanted o (yielded ops a.tmps) = true then Oper.wp P o a Y K Q else E := by
  obtain ⟨hu, ii, z, hii, hz0, hz1, hz2, hz⟩ := F
  refine step_append_lies (w := Y) hgd s x t ho W.heap.size e ii z size bytes hu hii hz0 hz1 hz2 hz hsz v n xs hs (hM.own i _ hi) ⟨b, 0, none⟩ 1 1 news hx hl (fun j u hu => by rw [addr_add, Nat.zero_add]; exact hnews j u hu) h1 (by omega) (by unfold maxLen; omega)
    (Nat.le_trans (Nat.mul_le_mul h63 hby) (by decide)) hM.bel.size Y.heap.size rfl fun g cap w' hown' hg hat _ => ?_
  have hb : Bel W w' := Below.grown hM.bel hg hM.bel.size (fun k hk => ((hM.own i _ hi).lt k hk).1)
  have hm := mem_put hM i hi ⟨.slice (some ⟨g, 0, none⟩) (n + 1) cap, e, size, n + 1, xs ++ news⟩ hown' hg hb (hat.imp (fun h => by simp [Value.ownBlock]; exact h.symm) fun e b hb => by simp [Value.ownBlock] at hb; omega)
  have e := ext_of hb
  have := h g cap w'
  rw [e] at this
  exact this hm
def innerB (e : TypeId) (N : Nat) (us : List Value) (fs : List (Nat → Bool)) : List Ent := List.zipWith (fun u f => ⟨u, e, 1, N, celB.row (mapB f N)⟩) us fs
theorem innerB_snoc {e : TypeId} {N : Nat} {us : List Value} {fs : List (Nat → Bool)} {u : Value} {f : Nat → Bool} (h : us.length = fs.length) : innerB e N (us ++ [u]) (fs ++ [f]) = innerB e N us fs ++ [⟨u, e, 1, N, celB.row (mapB f N)⟩] := by
  unfold innerB; rw [List.zipWith_append h]; rfl
/-- a slice of rows of bools, read as functions -/
def RdNB (w : World) (v : Value) (N : Nat) (fs : List (Nat → Bool)) : Prop := ∃ a c, v = .slice a fs.length c ∧ fs.length ≤ c ∧ c ≤ maxLen ∧ (0 < fs.length → ∃ b off, a = some ⟨b, off, none⟩ ∧ b < w.heap.size ∧
  ∀ i f, fs[i]? = some f → ∃ u, w.cell? ⟨b, off + i, none⟩ = some u ∧ Rd celB w u (mapB f N))
theorem RdNB.bel {w x : World} {v : Value} {N : Nat} {fs : List (Nat → Bool)} (h : RdNB w v N fs) (hb : Bel w x) : RdNB x v N fs := by
  obtain ⟨a, c, rfl, h1, h2, h3⟩ := h
  refine ⟨a, c, rfl, h1, h2, fun h0 => ?_⟩
  obtain ⟨b, off, rfl, hlt, hc⟩ := h3 h0
  refine ⟨b, off, rfl, Nat.lt_of_lt_of_le hlt hb.size, fun i f hf => ?_⟩
  obtain ⟨u, h4, h5⟩ := hc i f hf
  exact ⟨u, by rw [Below.cell hb (p := ⟨b, _, none⟩) hlt]; exact h4, h5.bel hb⟩
theorem grp_rdB {W w : World} {t e : TypeId} {v : Value} {N : Nat} {us : List Value} {fs : List (Nat → Bool)} (hl : us.length = fs.length) (h : Mem W w (⟨v, t, 1, fs.length, us⟩ :: innerB e N us fs)) : RdNB w v N fs := by
  have ho : w.ownsRow W.heap.size t 1 v fs.length us := h.own 0 _ rfl
  have hin : ∀ (i : Nat) (u : Value) (f : Nat → Bool), us[i]? = some u → fs[i]? = some f → Rd celB w u (mapB f N) := fun (i : Nat) (u : Value) (f : Nat → Bool) hu hf => by
    have hg : (innerB e N us fs)[i]? = some (⟨u, e, 1, N, celB.row (mapB f N)⟩ : Ent) := by simp [innerB, List.getElem?_zipWith, hu, hf]
    exact rd_of_row (own_cast (h.own (i + 1) _ (by simpa using hg)) (mapB_len f N).symm rfl)
  rcases own_len ho with ⟨a, c, rfl, hle, hcap⟩
  refine ⟨a, c, rfl, hle, hcap, fun hp => ?_⟩
  have hc := fun g hg => ho.cells (g := g) hg
  have hlt := ho.lt
  rcases ho.2 with ⟨h1, h2⟩ | ⟨g, cap, cur, h1, _, hg, _⟩
  · omega
  · cases h1
    refine ⟨g, 0, rfl, (hlt g rfl).2, fun i f hf => ?_⟩
    have hi : i < us.length := by rw [hl]; exact (List.getElem?_eq_some_iff.1 hf).1
    have hu : us[i]? = some us[i] := by simp
    refine ⟨us[i], ?_, hin i _ f hu hf⟩
    have := hc g rfl i _ hu
    rw [addr_add] at this
    exact this
theorem appBB : AppF Try.prog 70 62 1 24 := appF_of (z := .slice none 0 0) Try.underlying70 (by kernel_rfl) rfl
theorem idxL_none (f : Nat → Bool) (N : Nat) : ((idxL (fun i => f i == false) N).length == 0) = (maskOf f N == 2 ^ N - 1) := by
  rw [Bool.eq_iff_iff, beq_iff_eq, beq_iff_eq, ← maskOf_all, maskOf_inj]
  unfold idxL
  rw [List.length_map, List.length_eq_zero_iff, List.filter_eq_nil_iff]
  constructor
  · intro h i hi
    have := h i (List.mem_range.2 hi)
    simpa using this
  · intro h i hi
    rw [h i (List.mem_range.1 hi)]; simp
set_option maxHeartbeats 1000000 in
theorem l00Own_c (b c : Nat) (xs : List Int) (hl : xs.length ≤ 1000000000) (w : World) (hb : b < w.heap.size) (hc : ∀ (i : Nat) u, (celI.row xs)[i]? = some u → w.cell? ⟨b, i, none⟩ = some u) :
    Calls Try.prog 64 #[.slice (some ⟨b, 0, none⟩) xs.length c] w (RetRow 2 1 (fun v => v) xs.length (celI.row xs) w) := by
  generalize hR : RetRow _ _ _ _ _ w = R
  have HR := Lib.hid hR
  clear hR
  have HC := Lib.hid hc
  clear hc
  go_enter Try.func64, Try.ntmps64
  go_wp2_with (at_builtin; refine wpList_append_ext rfl (.tmp 3) (.tmp 4) 28 2 1 8 rfl appIntW (by decide) w _ 0 [] rfl (own_empty w _ _ _ (Nat.le_refl _)) ⟨b, 0, none⟩ xs.length c (celI.row xs) rfl (rowI_lenW xs) ?_ (fun u hu => by unfold Cel.row at hu; obtain ⟨x, _, hx⟩ := List.mem_flatMap.1 hu; exact celI.one x u hx) ?_ (by omega) (by omega) ?_; (focus (intro j u hj; rw [addr_add, Nat.zero_add, Below.cell (by (repeat (first | with_reducible exact Bel.refl _ | with_reducible assumption | apply Bel.ext | apply Bel.alloc | apply Bel.drew | exact Bel.refl _ | refine Bel.set ?_ (by first | (simp; done) | (simp [go_sem]; done) | omega) _)) : Bel w _) (p := ⟨b, j, none⟩) hb]; exact HC.out j u hj)); (focus (repeat (first | with_reducible exact Bel.refl _ | with_reducible assumption | apply Bel.ext | apply Bel.alloc | apply Bel.drew | exact Bel.refl _))); intro v2 g2 hown2 hgr2)
  rw [← HR.out]
  rw [Nat.zero_add, List.nil_append] at hown2
  exact RetRow.mk' rfl (by (repeat (first | with_reducible exact Bel.refl _ | with_reducible assumption | apply Bel.ext | apply Bel.alloc | apply Bel.drew | exact Bel.refl _ | refine Bel.set ?_ (by first | (simp; done) | (simp [go_sem]; done) | omega) _)) : Bel _ _) hown2
/-- what the reference's search hands back: the list it was given and what it has found, if it has -/
def RetPick (e : TypeId) (B : Nat) (pre : List Int) (r : Option (List Int)) (w : World) (en : Ending) (w' : World) : Prop :=
  ∃ v g, en = .returned (.tuple #[v, .bool r.isSome]) ∧ w' = ext w g ∧ ∀ l, r = some l → (ext w g).ownsRow B e 1 v (pre ++ l).length (celI.row (pre ++ l))
set_option maxHeartbeats 2000000 in
theorem pick_zero (N : Nat) (hN : N ≤ 50) (v u : Value) (F : Nat → Bool) (B b c n : Nat) (pre : List Int) (hn : Hid (n = pre.length)) (k : Nat) (sets : List Nat) (w : World) (hu : Rd celB w u (mapB F N)) (ho : w.ownsRow B 2 1 (.slice (some ⟨b, 0, none⟩) n c) n (celI.row pre)) (hB : B ≤ w.heap.size) :
    Calls Try.prog 46 #[v, u, .slice (some ⟨b, 0, none⟩) n c, .int .i64 (k : Int), .int .i64 0] w (RetPick 2 B pre (comb (2 ^ N - 1) 0 k (maskOf F N) sets) w) := by
  generalize hR : RetPick _ _ _ _ w = R
  have HR := Lib.hid hR
  clear hR
  have hi := idxL_none F N
  have HL := Lib.hid (fun w hu => l16List_c F N (by omega) false u w hu)
  rw [comb_zero, ← hi] at HR
  clear hi
  have HO := Lib.hid ho
  clear ho
  generalize idxL (fun i => F i == false) N = ys at *
  by_cases he : ys.length = 0
  · have hd : ((ys.length : Int) == 0) = true := by simp [he]
    have HD := Lib.hid (show (if (ys.length == 0) = true then some ([] : List Int) else none) = some [] from by simp [he])
    rw [HD.out] at HR
    clear he HD
    generalize ys.length = q at *
    go_enter Try.func46, Try.ntmps46
    go_wp2_with (first | (go_at_call 41; refine Calls.mono (HL.out _ (hu.bel ?_)) ?_; (focus (repeat (first | with_reducible exact Bel.refl _ | with_reducible assumption | apply Bel.ext | apply Bel.alloc | apply Bel.drew | exact Bel.refl _))); rintro ee ww ⟨v1, g1, rfl, rfl, hown1⟩; obtain ⟨a1, c1, rfl, hle1, hcap1⟩ := own_len hown1; clear hown1))
    rw [← HR.out]
    refine ⟨_, _, rfl, rfl, fun l hl => ?_⟩
    cases hl
    rw [List.append_nil, ← hn.out]
    exact own_bel HO.out (by (repeat (first | with_reducible exact Bel.refl _ | with_reducible assumption | apply Bel.ext | apply Bel.alloc | apply Bel.drew | exact Bel.refl _ | refine Bel.set ?_ (by first | (simp; done) | (simp [go_sem]; done) | omega) _)) : Bel w _)
  · have hd : ((ys.length : Int) == 0) = false := by simpa using he
    have HD := Lib.hid (show (if (ys.length == 0) = true then some ([] : List Int) else none) = none from if_neg (by simpa using he))
    rw [HD.out] at HR
    clear he HD
    generalize ys.length = q at *
    go_enter Try.func46, Try.ntmps46
    go_wp2_with (first | (go_at_call 41; refine Calls.mono (HL.out _ (hu.bel ?_)) ?_; (focus (repeat (first | with_reducible exact Bel.refl _ | with_reducible assumption | apply Bel.ext | apply Bel.alloc | apply Bel.drew | exact Bel.refl _))); rintro ee ww ⟨v1, g1, rfl, rfl, hown1⟩; obtain ⟨a1, c1, rfl, hle1, hcap1⟩ := own_len hown1; clear hown1))
    rw [← HR.out]
    exact ⟨_, _, rfl, rfl, fun l hl => by cases hl⟩
set_option maxHeartbeats 4000000 in
theorem l16Pick_c (N : Nat) (hN : N ≤ 50) (v : Value) (fs : List (Nat → Bool)) (hlen : fs.length ≤ 30) : ∀ (m k n : Nat) (F : Nat → Bool) (u : Value) (B b c : Nat) (pre : List Int) (w : World), Hid (n = pre.length) → k ≤ fs.length → m ≤ 30 → n + m ≤ 100 → RdNB w v N fs → Rd celB w u (mapB F N) →
    Hid (w.ownsRow B 2 1 (.slice (some ⟨b, 0, none⟩) n c) n (celI.row pre)) → B ≤ w.heap.size → b < w.heap.size →
    Calls Try.prog 46 #[v, u, .slice (some ⟨b, 0, none⟩) n c, .int .i64 (k : Int), .int .i64 (m : Int)] w (RetPick 2 B pre (comb (2 ^ N - 1) m k (maskOf F N) ((fs.map (fun f => maskOf f N)).drop k)) w) := by
  intro m
  induction m with
  | zero => exact fun k n F u B b c pre w hn _ _ _ _ hu ho hB _ => pick_zero N hN v u F B b c n pre hn k _ w hu ho.out hB
  | succ m ih =>
    intro k n F u B b c pre w hn hk0 hm hnm hv hu ho hB hbw
    generalize hR : RetPick _ _ _ _ w = R
    have HR := Lib.hid hR
    clear hR
    have IH := Lib.hid (fun (k : Nat) (F : Nat → Bool) (u : Value) (B b c : Nat) (pre : List Int) (w : World) (h0 : Hid (n + 1 = pre.length)) (h1 : k ≤ fs.length) h2 h3 h4 h5 h6 => ih k (n + 1) F u B b c pre w h0 h1 (by omega) (by omega) h2 h3 h4 h5 h6)
    have HV := Lib.hid hv
    obtain ⟨a, cc, rfl, hcap, hmax, hbase⟩ := hv
    unfold maxLen at hmax
    have HB := Lib.hid hbase
    have hm0 : (((m + 1 : Nat) : Int) == 0) = false := by simp; omega
    have hfl : Hid ((fs.map (fun f => maskOf f N)).length = fs.length) := Lib.hid (List.length_map ..)
    clear ih hbase
    generalize hfsl : fs.length = M at *
    have HFS := Lib.hid hfsl
    clear hfsl
    rw [Int.natCast_add, Int.natCast_one] at hm0 ⊢
    go_enter Try.func46, Try.ntmps46
    go_wp2
    go_loopw [12] (fun i wr => ∃ j : Nat, j ≤ M ∧ i = .int .i64 j ∧ (∃ g, wr = ext w g) ∧ Hid (comb (2 ^ N - 1) (m + 1) k (maskOf F N) ((fs.map (fun f => maskOf f N)).drop k) = comb (2 ^ N - 1) (m + 1) j (maskOf F N) ((fs.map (fun f => maskOf f N)).drop j))) (fun i _ => M - (intOf i).toNat)
    case atStart => exact ⟨k, hk0, rfl, ext_ex (by (repeat (first | with_reducible exact Bel.refl _ | with_reducible assumption | apply Bel.ext | apply Bel.alloc | apply Bel.drew | exact Bel.refl _ | refine Bel.set ?_ (by first | (simp; done) | (simp [go_sem]; done) | omega) _)) : Bel _ _), Lib.hid rfl⟩
    case round =>
      obtain ⟨j, hj, rfl, ⟨g, rfl⟩, hv2⟩ := hrel
      by_cases hlt : j < M
      · obtain ⟨bb, off, rfl, hbb, hcs⟩ := HB.out (by omega)
        obtain ⟨f, hf⟩ : ∃ f, fs[j]? = some f := by
          cases hq : fs[j]? with
          | some f => exact ⟨f, rfl⟩
          | none => rw [List.getElem?_eq_none_iff] at hq; have := HFS.out; omega
        obtain ⟨uf, hcf, huf⟩ := hcs j f hf
        have hx : (fs.map (fun f => maskOf f N))[j]? = some (maskOf f N) := by simp [hf]
        have HH := Lib.hid (fun l => comb_hit (l := l) (due := 2 ^ N - 1) (m := m) (hv := maskOf F N) hx)
        have HM := Lib.hid (comb_miss (due := 2 ^ N - 1) (m := m) (hv := maskOf F N) hx)
        have HC := Lib.hid (fun (u : Value) (B b c : Nat) (w' : World) (hw' : Bel w w') (h0 : Hid (n + 1 = (pre ++ [(j : Int)]).length)) h1 h2 h3 h4 => IH.out (j + 1) (fun i => F i || f i) u B b c (pre ++ [(j : Int)]) w' h0 (by omega) (HV.out.bel hw') h1 h2 h3 h4)
        rw [maskOf_or] at HH HM
        have HJ := Lib.hid (fun u v w hu hv => l16Join_c F f N (by omega) u v w hu hv)
        have HN1 : Hid (n + 1 = (pre ++ [(j : Int)]).length) := Lib.hid (by rw [List.length_append, ← hn.out]; rfl)
        have HOB : Hid (∀ (w' : World), Bel w w' → ∀ (i : Nat) u, (celI.row pre)[i]? = some u → w'.cell? ⟨b, i, none⟩ = some u) := Lib.hid (fun w' hb i u hi => by have h9 := (own_bel ho.out hb).cells (g := b) rfl i u hi; rw [addr_add, Nat.zero_add] at h9; exact h9)
        have HPN := Lib.hid (fun w hb hc => l00Own_c b c pre (by rw [← hn.out]; omega) w hb hc)
        rw [← hn.out] at HPN
        clear hx hf hcs
        generalize comb (2 ^ N - 1) m (j + 1) (maskOf (fun i => F i || f i) N) ((fs.map (fun f => maskOf f N)).drop (j + 1)) = r at *
        have hM : Mem w (ext w g) [] := mem_bel (mem_nil w) (by (repeat (first | with_reducible exact Bel.refl _ | with_reducible assumption | apply Bel.ext | apply Bel.alloc | apply Bel.drew | exact Bel.refl _ | refine Bel.set ?_ (by first | (simp; done) | (simp [go_sem]; done) | omega) _)))
        have hms := (by (repeat (first | with_reducible exact Bel.refl _ | with_reducible assumption | apply Bel.ext | apply Bel.alloc | apply Bel.drew | exact Bel.refl _ | refine Bel.set ?_ (by first | (simp; done) | (simp [go_sem]; done) | omega) _)) : Bel w (ext w g)).size
        rcases r with _ | l
        · have HM2 := Lib.hid (HM.out rfl)
          clear HM HH
          go_wp2_with (first | (go_at_call 49; refine Calls.mono (mem_row hM ?_ (HJ.out _ _ _ (hu.bel ?_) (huf.bel ?_))) ?_; (focus (repeat (first | with_reducible exact Bel.refl _ | with_reducible assumption | apply Bel.ext | apply Bel.alloc | apply Bel.drew | exact Bel.refl _))); (focus (repeat (first | with_reducible exact Bel.refl _ | with_reducible assumption | apply Bel.ext | apply Bel.alloc | apply Bel.drew | exact Bel.refl _))); (focus (repeat (first | with_reducible exact Bel.refl _ | with_reducible assumption | apply Bel.ext | apply Bel.alloc | apply Bel.drew | exact Bel.refl _))); rintro ee ww ⟨v1, _, rfl, rfl, hM⟩; (try simp only [List.nil_append, List.cons_append, List.set_cons_zero, List.set_cons_succ] at hM)) | (go_at_call 64; refine Calls.mono (mem_row hM ?_ (HPN.out _ ?_ ?_)) ?_; (focus (repeat (first | with_reducible exact Bel.refl _ | with_reducible assumption | apply Bel.ext | apply Bel.alloc | apply Bel.drew | exact Bel.refl _))); (focus (exact Nat.lt_of_lt_of_le hbw (bel_size (by (repeat (first | with_reducible exact Bel.refl _ | with_reducible assumption | apply Bel.ext | apply Bel.alloc | apply Bel.drew | exact Bel.refl _ | refine Bel.set ?_ (by first | (simp; done) | (simp [go_sem]; done) | omega) _)) : Bel w _)))); (focus (intro i u hi; exact HOB.out _ (by (repeat (first | with_reducible exact Bel.refl _ | with_reducible assumption | apply Bel.ext | apply Bel.alloc | apply Bel.drew | exact Bel.refl _ | refine Bel.set ?_ (by first | (simp; done) | (simp [go_sem]; done) | omega) _))) i u hi)); rintro ee ww ⟨v2, _, rfl, rfl, hM⟩; (try simp only [List.nil_append, List.cons_append, List.set_cons_zero, List.set_cons_succ] at hM)) | (at_builtin; refine wpList_append_mem rfl (.tmp 38) (.tmp 40) 28 2 1 8 rfl appIntW (by decide) w _ 1 _ _ _ rfl 1 [.int .i64 (j : Int)] rfl (by first | with_reducible rfl | (simp [go_sem]; done)) rfl (by intro u hu; simp at hu; first | (subst hu; rfl) | (rcases hu with rfl | rfl <;> rfl) | (rcases hu with rfl | rfl | rfl <;> rfl)) (mem_bel hM ?_) (by omega) (by omega) ?_; (focus (repeat (first | with_reducible exact Bel.refl _ | with_reducible assumption | apply Bel.ext | apply Bel.alloc | apply Bel.drew | exact Bel.refl _))); intro v2 g2 hM; (try simp only [List.set_cons_zero, List.set_cons_succ] at hM)) | (go_at_call 46; have hO1 := hM.own 1 _ rfl; have hO0 := hM.own 0 _ rfl; dsimp only at hO1 hO0; clear hM; obtain ⟨b2, c2, rfl, hw2, hl2, -⟩ := own_far hO1 (by omega); (refine Calls.mono (HC.out _ w.heap.size _ _ _ ?_ HN1 (rd_of_row (own_cast hO0 (mapB_len _ N).symm rfl)) (Lib.hid (own_cast hO1 rfl (by rw [Cel.row_append, Cel.row_one]; rfl))) ?_ ?_) ?_); (focus (repeat (first | with_reducible exact Bel.refl _ | with_reducible assumption | apply Bel.ext | apply Bel.alloc | apply Bel.drew | exact Bel.refl _))); (focus (exact bel_size (by (repeat (first | with_reducible exact Bel.refl _ | with_reducible assumption | apply Bel.ext | apply Bel.alloc | apply Bel.drew | exact Bel.refl _ | refine Bel.set ?_ (by first | (simp; done) | (simp [go_sem]; done) | omega) _)) : Bel w _))); (focus (exact hl2)); rintro ee ww ⟨v3, g3, rfl, rfl, hl⟩))
          go_roundw
          case rel => exact ⟨j + 1, by omega, by go_num, ext_ex (by (repeat (first | with_reducible exact Bel.refl _ | with_reducible assumption | apply Bel.ext | apply Bel.alloc | apply Bel.drew | exact Bel.refl _ | refine Bel.set ?_ (by first | (simp; done) | (simp [go_sem]; done) | omega) _)) : Bel _ _), Lib.hid (by rw [hv2.out, HM2.out])⟩
          case measure => simp [intOf]; omega
        · have HR2 := Lib.hid (show RetPick 2 B pre (some ((j : Int) :: l)) w = R from by rw [← HR.out, hv2.out, HH.out l rfl])
          clear HM HH HR hv2
          go_wp2_with (first | (go_at_call 49; refine Calls.mono (mem_row hM ?_ (HJ.out _ _ _ (hu.bel ?_) (huf.bel ?_))) ?_; (focus (repeat (first | with_reducible exact Bel.refl _ | with_reducible assumption | apply Bel.ext | apply Bel.alloc | apply Bel.drew | exact Bel.refl _))); (focus (repeat (first | with_reducible exact Bel.refl _ | with_reducible assumption | apply Bel.ext | apply Bel.alloc | apply Bel.drew | exact Bel.refl _))); (focus (repeat (first | with_reducible exact Bel.refl _ | with_reducible assumption | apply Bel.ext | apply Bel.alloc | apply Bel.drew | exact Bel.refl _))); rintro ee ww ⟨v1, _, rfl, rfl, hM⟩; (try simp only [List.nil_append, List.cons_append, List.set_cons_zero, List.set_cons_succ] at hM)) | (go_at_call 64; refine Calls.mono (mem_row hM ?_ (HPN.out _ ?_ ?_)) ?_; (focus (repeat (first | with_reducible exact Bel.refl _ | with_reducible assumption | apply Bel.ext | apply Bel.alloc | apply Bel.drew | exact Bel.refl _))); (focus (exact Nat.lt_of_lt_of_le hbw (bel_size (by (repeat (first | with_reducible exact Bel.refl _ | with_reducible assumption | apply Bel.ext | apply Bel.alloc | apply Bel.drew | exact Bel.refl _ | refine Bel.set ?_ (by first | (simp; done) | (simp [go_sem]; done) | omega) _)) : Bel w _)))); (focus (intro i u hi; exact HOB.out _ (by (repeat (first | with_reducible exact Bel.refl _ | with_reducible assumption | apply Bel.ext | apply Bel.alloc | apply Bel.drew | exact Bel.refl _ | refine Bel.set ?_ (by first | (simp; done) | (simp [go_sem]; done) | omega) _))) i u hi)); rintro ee ww ⟨v2, _, rfl, rfl, hM⟩; (try simp only [List.nil_append, List.cons_append, List.set_cons_zero, List.set_cons_succ] at hM)) | (at_builtin; refine wpList_append_mem rfl (.tmp 38) (.tmp 40) 28 2 1 8 rfl appIntW (by decide) w _ 1 _ _ _ rfl 1 [.int .i64 (j : Int)] rfl (by first | with_reducible rfl | (simp [go_sem]; done)) rfl (by intro u hu; simp at hu; first | (subst hu; rfl) | (rcases hu with rfl | rfl <;> rfl) | (rcases hu with rfl | rfl | rfl <;> rfl)) (mem_bel hM ?_) (by omega) (by omega) ?_; (focus (repeat (first | with_reducible exact Bel.refl _ | with_reducible assumption | apply Bel.ext | apply Bel.alloc | apply Bel.drew | exact Bel.refl _))); intro v2 g2 hM; (try simp only [List.set_cons_zero, List.set_cons_succ] at hM)) | (go_at_call 46; have hO1 := hM.own 1 _ rfl; have hO0 := hM.own 0 _ rfl; dsimp only at hO1 hO0; clear hM; obtain ⟨b2, c2, rfl, hw2, hl2, -⟩ := own_far hO1 (by omega); (refine Calls.mono (HC.out _ w.heap.size _ _ _ ?_ HN1 (rd_of_row (own_cast hO0 (mapB_len _ N).symm rfl)) (Lib.hid (own_cast hO1 rfl (by rw [Cel.row_append, Cel.row_one]; rfl))) ?_ ?_) ?_); (focus (repeat (first | with_reducible exact Bel.refl _ | with_reducible assumption | apply Bel.ext | apply Bel.alloc | apply Bel.drew | exact Bel.refl _))); (focus (exact bel_size (by (repeat (first | with_reducible exact Bel.refl _ | with_reducible assumption | apply Bel.ext | apply Bel.alloc | apply Bel.drew | exact Bel.refl _ | refine Bel.set ?_ (by first | (simp; done) | (simp [go_sem]; done) | omega) _)) : Bel w _))); (focus (exact hl2)); rintro ee ww ⟨v3, g3, rfl, rfl, hl⟩))
          have hr := hl l rfl
          obtain ⟨gz, hz⟩ := ext_ex (by (repeat (first | with_reducible exact Bel.refl _ | with_reducible assumption | apply Bel.ext | apply Bel.alloc | apply Bel.drew | exact Bel.refl _ | refine Bel.set ?_ (by first | (simp; done) | (simp [go_sem]; done) | omega) _)) : Bel w (ext (ext w g2) g3))
          rw [hz] at hr ⊢
          rw [← HR2.out]
          refine ⟨_, _, rfl, rfl, fun l' hl' => ?_⟩
          cases hl'
          have e : pre ++ (j : Int) :: l = (pre ++ [(j : Int)]) ++ l := by simp
          rw [e]
          exact own_mono hr hB
      · have hjM : j = M := by omega
        subst hjM
        have HN : Hid (comb (2 ^ N - 1) (m + 1) j (maskOf F N) ((fs.map (fun f => maskOf f N)).drop j) = none) := Lib.hid (by rw [List.drop_of_length_le (by rw [hfl.out]; exact Nat.le_refl _)]; rfl)
        have HR2 := Lib.hid (show RetPick 2 B pre none w = R from by rw [← HR.out, hv2.out, HN.out])
        clear HR hv2 HN
        go_wp2
        rw [← HR2.out]
        exact ⟨_, _, rfl, rfl, fun l hl => by cases hl⟩
end Go.Proofs.Ytpfemaonipcbgaa
