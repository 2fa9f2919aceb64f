/-
  Plain arithmetic: spots, their determinants, coordinates in a cone, volumes.
  Conditions: none.
-/
import Derived.Test.YtnjepaboecijcaaCorn
set_option linter.unusedVariables false
set_option linter.unusedSimpArgs false
namespace Go.Ev

def isSF (a : Int) : Bool := inF a (-20) 20
def isSpF (a b c : Int) : Bool := isSF a && isSF b && isSF c
def idx4F (p q r s : Bool) : Int := match p with
  | true => match q with
    | true => match r with
      | true => match s with
        | true => -1
        | false => 3
      | false => 2
    | false => 1
  | false => 0
theorem idx4_ge (p q r s : Bool) : decide (idx4F p q r s ≥ 0) = !(p && q && r && s) := by cases p <;> cases q <;> cases r <;> cases s <;> rfl

/-- One number of a cross product. -/
def crF (p q r s : Int) : Int := w64 (w64 (p * q) - w64 (r * s))
def dotF (a b c x y z : Int) : Int := w64 (w64 (w64 (a * x) + w64 (b * y)) + w64 (c * z))
def volF (a b c d e f g h i : Int) : Int := dotF a b c (crF e i f h) (crF f g d i) (crF d h e g)
def volP (a b c d e f g h i : Int) : Int := a * (e * i - f * h) + b * (f * g - d * i) + c * (d * h - e * g)

theorem w64_mul_r (a b : Int) : w64 (a * w64 b) = w64 (a * b) := by
  have h : ∃ k, w64 b = b + k * 18446744073709551616 := by
    refine ⟨-((b + 9223372036854775808) / 18446744073709551616), ?_⟩
    rw [w64_def]; omega
  obtain ⟨k, hk⟩ := h
  rw [hk, Int.mul_add, ← Int.mul_assoc]
  generalize a * k = m
  simp only [w64_def]
  omega
theorem w64_mul_l (a b : Int) : w64 (w64 a * b) = w64 (a * b) := by rw [Int.mul_comm, w64_mul_r, Int.mul_comm]

theorem volF_eq (a b c d e f g h i : Int) : volF a b c d e f g h i = w64 (volP a b c d e f g h i) := by
  unfold volF dotF crF volP
  simp only [w64_sub_r, w64_sub_l, w64_mul_r, w64_add_l, w64_add_r]

def sgF (n : Int) : Int := selF (decide (n < 0)) (-1) 1

/-- The coordinates. -/
def co0 (a b c d e f g h i x y z : Int) : Int := w64 (sgF (volF a b c d e f g h i) * volF x y z d e f g h i)
def co1 (a b c d e f g h i x y z : Int) : Int := w64 (sgF (volF a b c d e f g h i) * volF a b c x y z g h i)
def co2 (a b c d e f g h i x y z : Int) : Int := w64 (sgF (volF a b c d e f g h i) * volF a b c d e f x y z)
theorem vol_rot (a b c d e f g h i : Int) : volF d e f g h i a b c = volF a b c d e f g h i := by
  rw [volF_eq, volF_eq]
  congr 1
  unfold volP
  grind

def isConeF (a b c d e f g h i : Int) : Bool := isSpF a b c && isSpF d e f && isSpF g h i && !decide (volF a b c d e f g h i = 0)
theorem size_zero {n : Int} (h1 : -9223372036854775808 ≤ n) (h2 : n ≤ 9223372036854775807) : decide (sizeF n = 0) = decide (n = 0) := by
  rw [decide_eq_decide]
  unfold sizeF maxi
  rw [w64_def]
  split <;> omega
theorem vol_size (a b c d e f g h i : Int) : decide (sizeF (volF a b c d e f g h i) = 0) = decide (volF a b c d e f g h i = 0) := size_zero (w64_bounds _).1 (w64_bounds _).2
theorem min3_ge (a b c : Int) : decide (mini (mini a b) c ≥ 0) = (decide (a ≥ 0) && decide (b ≥ 0) && decide (c ≥ 0)) := by
  unfold mini
  rw [Bool.eq_iff_iff]
  simp only [decide_eq_true_eq, Bool.and_eq_true]
  split <;> split <;> omega

end Go.Ev
