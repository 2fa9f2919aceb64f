/-
  Expansions of fractions: the plain law.
  Conditions: none.
-/
import Derived.Test.YtnjepaboecijcaaList
import Derived.Test.YtnjepaboecijcaaMate
set_option linter.unusedVariables false
set_option linter.unusedSimpArgs false
namespace Go.Ev
open Go.RowKit

structure ExpOk (a b : Int) : Prop where
  lo : -1000000 ≤ a
  hi : a ≤ 1000000
  b0 : 0 ≤ b
  b1 : b ≤ 1000000

def expL (p q : Int) : List Int := if h : 0 < q then p / q :: expL q (p % q) else []
termination_by q.toNat
decreasing_by
  have := Int.emod_lt_of_pos p h
  have := Int.emod_nonneg p (show q ≠ 0 by omega)
  omega
theorem expL_zero {p q : Int} (h : ¬ 0 < q) : expL p q = [] := by rw [expL]; simp [h]
theorem expL_step {p q : Int} (h : 0 < q) : expL p q = p / q :: expL q (p % q) := by rw [expL]; simp [h]

/-- The state of the loop: what is laid down, and what is left to be divided. -/
structure ExpI (a b x y : Int) (L : List Value) (xs : List Int) (sp : List Value) (n c : Nat) : Prop where
  ok : ExpOk x y
  row : Row L sp n c 1
  il : L = il xs
  eq : xs ++ expL x y = expL a b
  bd : n + y.toNat ≤ 1000000

theorem ExpI.start {a b : Int} (h : ExpOk a b) : ExpI a b a b [] [] [] 0 0 := ⟨h, Row.empty, rfl, rfl, by have := h.b1; omega⟩
theorem ExpI.pos {a b x y : Int} {L : List Value} {xs : List Int} {sp : List Value} {n c : Nat} (h : ExpI a b x y L xs sp n c) (hy : ¬ y = 0) : 0 < y := by have := h.ok.b0; omega
theorem ExpI.floor {a b x y : Int} {L : List Value} {xs : List Int} {sp : List Value} {n c : Nat} (h : ExpI a b x y L xs sp n c) (hy : ¬ y = 0) : floorF x y = x / y :=
  floorF_eq (h.pos hy) (by have := h.ok.lo; omega) (by have := h.ok.hi; omega)
theorem ExpI.rest {a b x y : Int} {L : List Value} {xs : List Int} {sp : List Value} {n c : Nat} (h : ExpI a b x y L xs sp n c) (hy : ¬ y = 0) : w64 (x - w64 (floorF x y * y)) = x % y := by
  rw [h.floor hy, w64_sub_r]
  have h1 := Int.emod_add_mul_ediv x y
  have h2 := Int.emod_lt_of_pos x (h.pos hy)
  have h3 := Int.emod_nonneg x hy
  have h4 := h.ok.b1
  have e : x - x / y * y = x % y := by rw [Int.mul_comm]; omega
  rw [e, w64_in (by omega) (by omega)]
theorem ExpI.next {a b x y : Int} {L : List Value} {xs : List Int} {sp sp' : List Value} {n c c' : Nat} (h : ExpI a b x y L xs sp n c) (hy : ¬ y = 0) (hr : Row (L ++ [iv (floorF x y)]) sp' (n + 1) c' 1) :
    ExpI a b y (w64 (x - w64 (floorF x y * y))) (L ++ [iv (floorF x y)]) (xs ++ [floorF x y]) sp' (n + 1) c' := by
  have h1 := Int.emod_lt_of_pos x (h.pos hy)
  have h2 := Int.emod_nonneg x hy
  have h3 := h.ok
  have h4 := h.bd
  rw [h.rest hy]
  refine ⟨⟨by have := h3.b0; omega, h3.b1, h2, by have := h3.b1; omega⟩, hr, by rw [il_snoc, h.il], ?_, by omega⟩
  rw [← h.eq, h.floor hy, List.append_assoc, expL_step (h.pos hy)]
  rfl
theorem ExpI.mu {a b x y : Int} {L : List Value} {xs : List Int} {sp : List Value} {n c : Nat} (h : ExpI a b x y L xs sp n c) (hy : ¬ y = 0) : (w64 (x - w64 (floorF x y * y))).toNat < y.toNat := by
  have h1 := Int.emod_lt_of_pos x (h.pos hy)
  have h2 := Int.emod_nonneg x hy
  rw [h.rest hy]; omega
theorem ExpI.fin {a b x y : Int} {L : List Value} {xs : List Int} {sp : List Value} {n c : Nat} (h : ExpI a b x y L xs sp n c) (hy : y = 0) : L = Ev.il (expL a b) ∧ Row (Ev.il (expL a b)) sp n c 1 ∧ n ≤ 1000000 := by
  subst hy
  have h1 := h.eq
  rw [expL_zero (by omega), List.append_nil] at h1
  have h2 : L = Ev.il (expL a b) := by rw [h.il, h1]
  exact ⟨h2, h2 ▸ h.row, by have := h.bd; omega⟩

end Go.Ev
