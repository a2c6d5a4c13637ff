/- 'strconv.ParseInt' at any string: a number and no error, or a number and an error. -/
import Derived.Test.YtdneffnnpjgnbacDoorShelfR
import Derived.Test.YtdneffnnpjgnbacDoorRNum4
namespace Go.Proofs.YtdneffnnpjgnbacDoor
open Go.RowKit

def ErrAt (g : Nat) (w : World) : Prop := ∃ ev : Value, w.cell? ⟨g, 0, none⟩ = some ev ∧ (ev = .nilIface ∨ ∃ te pe, ev = .iface te pe)
/-- what the two sentinels hold -/
def ErrV (w : World) : Prop := ErrAt 2 w ∧ ErrAt 3 w
theorem ErrAt.bel {g : Nat} {w w' : World} (h : ErrAt g w) (hb : Bel w w') : ErrAt g w' := by
  obtain ⟨ev, h1, h2⟩ := h
  exact ⟨ev, by rw [Below.cell hb (p := ⟨g, 0, none⟩) (Lib.lt_of_cell h1)]; exact h1, h2⟩
theorem ErrV.bel {w w' : World} (h : ErrV w) (hb : Bel w w') : ErrV w' := ⟨h.1.bel hb, h.2.bel hb⟩
/-- what ParseInt hands back: a number that an int64 holds; no error exactly at a numeral -/
def ParseR (l : List UInt8) (w : World) (e : Ending) (w' : World) : Prop :=
  ∃ (n : Int) (er : Value), e = .returned (.tuple #[.int .i64 n, er]) ∧ (∃ g, w' = ext w g) ∧ -9223372036854775808 ≤ n ∧ n ≤ 9223372036854775807 ∧ ((er = .nilIface ∧ Lib.parseIntB 64 l = .ok n) ∨ ((∃ t p, er = .iface t p) ∧ ∀ v, Lib.parseIntB 64 l ≠ .ok v))
theorem sat_le (l : List UInt8) : -9223372036854775808 ≤ Lib.intSat 64 l ∧ Lib.intSat 64 l ≤ 9223372036854775807 := by
  cases l with
  | nil => decide
  | cons c r =>
    by_cases h : c.toNat = 45
    · obtain rfl : c = 45 := UInt8.toNat_inj.1 h
      rw [Lib.intSat_minus]; decide
    · rw [Lib.intSat_other 64 c r h]; decide
theorem ParseInt_c (s : ByteArray) (hs : s.size ≤ 1048576) (w : World) (he : ErrV w) : Calls Tryd.prog 73 #[.string s, .int .i64 10, .int .i64 64] w (ParseR s.data.toList w) := by
  cases h : Lib.parseIntB 64 s.data.toList with
  | ok v =>
    have hb := Lib.parseIntB_bounds h
    refine (Tryd.strconv_ParseInt_10_at64_ok s (by omega) v h w).mono ?_
    rintro e w' ⟨rfl, hw⟩
    refine ⟨v, _, rfl, ?_, by simpa using hb.1, by have := hb.2; simp at this; omega, .inl ⟨rfl, h⟩⟩
    rcases hw with rfl | ⟨t, rfl⟩
    · exact ext_ex (Bel.refl _)
    · exact ext_ex (Lib.bytesWorld_below _ _ _)
  | «syntax» =>
    obtain ⟨ev, h1, h2⟩ := he.1
    refine (Tryd.strconv_ParseInt_10_at64_syntax s (by omega) h ev w h1 h2).mono ?_
    rintro e w' ⟨N, rfl, _, _, hb⟩
    exact ⟨0, _, rfl, ext_ex hb, by omega, by omega, .inr ⟨⟨_, _, rfl⟩, fun v e => by rw [h] at e; cases e⟩⟩
  | range =>
    obtain ⟨ev, h1, h2⟩ := he.2
    refine (Tryd.strconv_ParseInt_10_at64_range s (by omega) h ev w h1 h2).mono ?_
    rintro e w' ⟨N, rfl, _, _, hb⟩
    exact ⟨_, _, rfl, ext_ex hb, (sat_le _).1, (sat_le _).2, .inr ⟨⟨_, _, rfl⟩, fun v e => by rw [h] at e; cases e⟩⟩
end Go.Proofs.YtdneffnnpjgnbacDoor
