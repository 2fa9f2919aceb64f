/-
  Plain arithmetic: what the functions of the program compute, and when they compute the same.
  Conditions: none.
-/
import Derived.Test.YtlkbfpklhncfbaaGreatDoorSpec
set_option linter.unusedVariables false
set_option linter.unusedSimpArgs false
namespace Go.Ev

theorem ne_of_dec {a b : Int} (h : decide (a = b) = false) : a ≠ b := of_decide_eq_false h
theorem eq_of_dec {a b : Int} (h : decide (a = b) = true) : a = b := of_decide_eq_true h
theorem isPtF_iff {a b : Int} : isPtF a b = true ↔ (-1000000 ≤ a ∧ a ≤ 1000000) ∧ (-1000000 ≤ b ∧ b ≤ 1000000) := by
  unfold isPtF isCoordF inF
  simp only [Bool.and_eq_true, decide_eq_true_eq, ge_iff_le]
theorem smallF_iff {a b : Int} : smallF a b = true ↔ (-1000 ≤ a ∧ a ≤ 1000) ∧ (-1000 ≤ b ∧ b ≤ 1000) := by
  unfold smallF inF
  simp only [Bool.and_eq_true, decide_eq_true_eq, ge_iff_le]
theorem in02 {i : Int} (h : inF i 0 2 = true) : i = 0 ∨ i = 1 ∨ i = 2 := by
  unfold inF at h
  simp only [Bool.and_eq_true, decide_eq_true_eq, ge_iff_le] at h
  omega

def primF (a b : Int) : Bool := decide (gcdF a b = 1)
def sineF (a b c d : Int) : Int := sizeF (detF a b c d)
def isCornF (a b c d : Int) : Bool := isPtF a b && isPtF c d && primF a b && primF c d && !decide (detF a b c d = 0)
def bigF (a b c d : Int) : Bool := decide (sineF a b c d > 1000000)
def limF (ok big : Bool) : Int := selF ok (selF big 3 0) 1
theorem br_lim {p q : Bool} {A B : Prop} (h : brK p (brK q B A) B) : brK (decide (limF p q = 0)) A B := by cases p <;> cases q <;> exact h
def isFracF (a b : Int) : Bool := isPtF a b && primF a b && decide (b ≥ 0) && (decide (b > 0) || decide (a = 1))
def nearF (a b c d : Int) : Bool := decide (sizeF (detF a b c d) = 1)
def faultF (p q : Bool) : Int := selF p (selF q 0 2) 1
theorem br_fault {p q : Bool} {A B : Prop} (h : brK p (brK q A B) B) : brK (decide (faultF p q = 0)) A B := by cases p <;> cases q <;> exact h

theorem frac_alt (a b : Int) : (decide (b ≥ 0) && (decide (b > 0) || decide (a = 1))) = (decide (b > 0) || (decide (b = 0) && decide (a = 1))) := by
  by_cases h1 : b > 0
  · have : b ≥ 0 := by omega
    simp [h1, this]
  · by_cases h2 : b = 0
    · subst h2; simp
    · have : ¬ b ≥ 0 := by omega
      simp [h1, h2, this]
theorem isFrac_alt (a b : Int) : isFracF a b = (isPtF a b && primF a b && (decide (b > 0) || (decide (b = 0) && decide (a = 1)))) := by
  unfold isFracF
  rw [Bool.and_assoc (isPtF a b && primF a b), frac_alt]
theorem sizeF_one {n : Int} (h1 : -9223372036854775808 ≤ n) (h2 : n ≤ 9223372036854775807) : sizeF n = 1 ↔ n = 1 ∨ n = -1 := by
  unfold sizeF maxi
  rw [w64_def]
  split <;> omega
theorem det_bounds (a b c d : Int) : -9223372036854775808 ≤ detF a b c d ∧ detF a b c d ≤ 9223372036854775807 := w64_bounds _
theorem near_alt (a b c d : Int) : nearF a b c d = (decide (detF a b c d = 1) || decide (detF a b c d = -1)) := by
  unfold nearF
  have := sizeF_one (det_bounds a b c d).1 (det_bounds a b c d).2
  rw [Bool.eq_iff_iff]
  simp only [decide_eq_true_eq, Bool.or_eq_true]
  exact this

theorem gcdF_zero {a b : Int} (ha : a.natAbs ≤ 9223372036854775807) (hb : b.natAbs ≤ 9223372036854775807) : gcdF a b = 0 ↔ a = 0 ∧ b = 0 := by
  rw [gcdF_eq ha hb]
  constructor
  · intro h
    have h' : Int.gcd a b = 0 := by omega
    exact Int.gcd_eq_zero_iff.1 h'
  · rintro ⟨rfl, rfl⟩; rfl
theorem dist_ne {a b c d : Int} (h1 : isPtF a b = true) (h2 : isPtF c d = true) (h : ¬ (a = c ∧ b = d)) : decide (gcdF (plusF c (-1) a) (plusF d (-1) b) = 0) = false := by
  rw [isPtF_iff] at h1 h2
  rw [plusF_neg, plusF_neg, w64_in (by omega) (by omega), w64_in (by omega) (by omega), decide_eq_false_iff_not, gcdF_zero (by omega) (by omega)]
  omega
theorem plusF_zero (k a : Int) : plusF 0 k a = w64 (k * a) := by unfold plusF; rw [Int.zero_add, w64_w64]

theorem det_zero_l (c d : Int) : detF 0 0 c d = 0 := by unfold detF; simp [w64_def]
theorem det_zero_r (a b : Int) : detF a b 0 0 = 0 := by unfold detF; simp [w64_def]
theorem det_same (a b : Int) : detF a b a b = 0 := by unfold detF; rw [Int.mul_comm a b]; simp [w64_def]
theorem sizeF_zero : sizeF 0 = 0 := by decide +kernel

theorem tri_parts {a b c d e f : Int} (h : isTriF a b c d e f = true) : ((-1000 ≤ a ∧ a ≤ 1000) ∧ (-1000 ≤ b ∧ b ≤ 1000)) ∧ ((-1000 ≤ c ∧ c ≤ 1000) ∧ (-1000 ≤ d ∧ d ≤ 1000)) ∧ ((-1000 ≤ e ∧ e ≤ 1000) ∧ (-1000 ≤ f ∧ f ≤ 1000)) ∧ areaF a b c d e f ≠ 0 := by
  unfold isTriF at h
  simp only [Bool.and_eq_true, smallF_iff, Bool.not_eq_true', decide_eq_false_iff_not] at h
  exact ⟨h.1.1.1, h.1.1.2, h.1.2, h.2⟩
theorem tri_side {a b c d e f : Int} (h : isTriF a b c d e f = true) :
    decide (gcdF (plusF c (-1) a) (plusF d (-1) b) = 0) = false ∧ decide (gcdF (plusF e (-1) a) (plusF f (-1) b) = 0) = false ∧
    decide (gcdF (plusF a (-1) c) (plusF b (-1) d) = 0) = false ∧ decide (gcdF (plusF e (-1) c) (plusF f (-1) d) = 0) = false ∧
    decide (gcdF (plusF a (-1) e) (plusF b (-1) f) = 0) = false ∧ decide (gcdF (plusF c (-1) e) (plusF d (-1) f) = 0) = false := by
  obtain ⟨h1, h2, h3, h4⟩ := tri_parts h
  have hab : ¬ (a = c ∧ b = d) := by
    rintro ⟨rfl, rfl⟩
    apply h4
    unfold areaF
    have : plusF a (-1) a = 0 := by rw [plusF_neg, w64_in (by omega) (by omega)]; omega
    have : plusF b (-1) b = 0 := by rw [plusF_neg, w64_in (by omega) (by omega)]; omega
    simp only [*, det_zero_l, sizeF_zero]
  have hac : ¬ (a = e ∧ b = f) := by
    rintro ⟨rfl, rfl⟩
    apply h4
    unfold areaF
    have : plusF a (-1) a = 0 := by rw [plusF_neg, w64_in (by omega) (by omega)]; omega
    have : plusF b (-1) b = 0 := by rw [plusF_neg, w64_in (by omega) (by omega)]; omega
    simp only [*, det_zero_r, sizeF_zero]
  have hbc : ¬ (c = e ∧ d = f) := by
    rintro ⟨rfl, rfl⟩
    apply h4
    unfold areaF
    simp only [det_same, sizeF_zero]
  have p1 : isPtF a b = true := isPtF_iff.2 (by omega)
  have p2 : isPtF c d = true := isPtF_iff.2 (by omega)
  have p3 : isPtF e f = true := isPtF_iff.2 (by omega)
  exact ⟨dist_ne p1 p2 hab, dist_ne p1 p3 hac, dist_ne p2 p1 (by omega), dist_ne p2 p3 hbc, dist_ne p3 p1 (by omega), dist_ne p3 p2 (by omega)⟩

theorem idx1_ge' (p : Bool) : decide (idx1F (!p) ≥ 0) = p := by cases p <;> rfl
theorem idx2_ge' (p q : Bool) : decide (idx2F (!p) (!q) ≥ 0) = (p || q) := by cases p <;> cases q <;> rfl

theorem m3_01 : (w64 (0 + 1)).tmod 3 = 1 := by decide +kernel
theorem m3_02 : (w64 (0 + 2)).tmod 3 = 2 := by decide +kernel
theorem m3_11 : (w64 (1 + 1)).tmod 3 = 2 := by decide +kernel
theorem m3_12 : (w64 (1 + 2)).tmod 3 = 0 := by decide +kernel
theorem m3_21 : (w64 (2 + 1)).tmod 3 = 0 := by decide +kernel
theorem m3_22 : (w64 (2 + 2)).tmod 3 = 1 := by decide +kernel

end Go.Ev
