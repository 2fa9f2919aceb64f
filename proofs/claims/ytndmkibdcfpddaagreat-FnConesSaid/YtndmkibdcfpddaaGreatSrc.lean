/-
  The source of numbers that the draws use: what is told of it. Conditions: none.
-/
import Derived.Test.YtndmkibdcfpddaaGreatArg
import Derived.Test.YtndmkibdcfpddaaGreatKM1
set_option linter.unusedVariables false
set_option linter.unusedSimpArgs false
namespace Go.Ev
open Go.RowKit

abbrev wv (h : Int) : Value := .int .u64 h
structure SrcAt (n : Nat) (o : Int) : Prop where
  lo : 0 ≤ o
  hi : o ≤ (n : Int)
theorem SrcAt.zero (n : Nat) : SrcAt n 0 := ⟨Int.le_refl _, by omega⟩
theorem SrcAt.next {n : Nat} {o : Int} (h : SrcAt n o) (hn : n ≤ 4096) (ho : o < (n : Int)) : SrcAt n (w64 (o + 1)) := by
  have := h.lo
  rw [w64_in (by omega) (by omega)]
  exact ⟨by omega, by omega⟩
def Below1 (m x : Int) : Prop := 1 ≤ m → 0 ≤ x ∧ x < m
theorem below_mod {m x : Int} (hx : 0 ≤ x) : Below1 m (x.tmod m) := fun hm => by
  rw [tmod_pos hx]
  exact ⟨Int.emod_nonneg _ (by omega), Int.emod_lt_of_pos _ (by omega)⟩
theorem below_zero {m : Int} (hm : m < 1) : Below1 m 0 := fun h => by omega
theorem src_x (h : Int) : 0 ≤ w64 (u64and h 1073741823) ∧ w64 (u64and h 1073741823) ≤ 1073741823 := by
  have := u64and_le h
  rw [w64_in (by omega) (by omega)]; exact this
theorem src_xb {h b : Int} (hb : IsByte b) : 0 ≤ w64 (w64 (u64and h 1073741823) + w64 b) := by
  have h1 := src_x h
  have h2 := hb.1; have h3 := hb.2
  rw [w64_in (n := b) (by omega) (by omega), w64_in (by omega) (by omega)]
  omega
theorem byte_at {zs : List Int} (hb : ∀ z ∈ zs, IsByte z) {i : Nat} (hi : i < zs.length) : IsByte (zs.getD i 0) := hb _ (getD_mem hi)
theorem take_il0 {xs : List Int} {off i : Nat} (ho : off = i) (hi : i < xs.length) : List.take 1 (List.drop off (il xs)) = [iv (xs.getD i 0)] := by
  have := take_il (xs := xs) (sp := []) ho hi
  rwa [List.append_nil] at this
theorem three_of {x : Int} (h : Below1 3 x) : x = 0 ∨ x = 1 ∨ x = 2 := by
  have := h (by omega)
  omega

end Go.Ev
