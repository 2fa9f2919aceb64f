/-
  Plain arithmetic: corners, their sines and cosines; matrices; whole roots.
  Conditions: none.
-/
import Derived.Test.YtnjepaboecijcaaMate
set_option linter.unusedVariables false
set_option linter.unusedSimpArgs false
namespace Go.Ev

/-! ## Corners -/

theorem isCornF_iff {a b c d : Int} : isCornF a b c d = true ↔ isPtF a b = true ∧ isPtF c d = true ∧ primF a b = true ∧ primF c d = true ∧ detF a b c d ≠ 0 := by
  unfold isCornF
  simp only [Bool.and_eq_true, Bool.not_eq_true', decide_eq_false_iff_not]
  constructor
  · rintro ⟨⟨⟨⟨h1, h2⟩, h3⟩, h4⟩, h5⟩; exact ⟨h1, h2, h3, h4, h5⟩
  · rintro ⟨h1, h2, h3, h4, h5⟩; exact ⟨⟨⟨⟨h1, h2⟩, h3⟩, h4⟩, h5⟩

theorem mul_abs {x y m n : Int} (hx1 : -m ≤ x) (hx2 : x ≤ m) (hy1 : -n ≤ y) (hy2 : y ≤ n) (hm : 0 ≤ m) : -(m * n) ≤ x * y ∧ x * y ≤ m * n := by
  by_cases hy : 0 ≤ y
  · exact mul_abs_le hx1 hx2 hy hy2 hm
  · have := mul_abs_le hx1 hx2 (show 0 ≤ -y by omega) (show -y ≤ n by omega) hm
    rw [Int.mul_neg] at this
    omega

theorem det_pt {a b c d : Int} (h1 : isPtF a b = true) (h2 : isPtF c d = true) : detF a b c d = a * d - b * c ∧ -2000000000000 ≤ detF a b c d ∧ detF a b c d ≤ 2000000000000 := by
  rw [isPtF_iff] at h1 h2
  have h3 := mul_abs (x := a) (y := d) (m := 1000000) (n := 1000000) (by omega) (by omega) (by omega) (by omega) (by omega)
  have h4 := mul_abs (x := b) (y := c) (m := 1000000) (n := 1000000) (by omega) (by omega) (by omega) (by omega) (by omega)
  have : detF a b c d = a * d - b * c := by
    unfold detF
    rw [w64_in (n := a * d) (by omega) (by omega), w64_in (n := b * c) (by omega) (by omega), w64_in (by omega) (by omega)]
  omega

theorem sine_pt {a b c d : Int} (h1 : isPtF a b = true) (h2 : isPtF c d = true) : sineF a b c d = (detF a b c d).natAbs := by
  have := det_pt h1 h2
  exact sizeF_abs (by omega) (by omega)
theorem sine_corn {a b c d : Int} (h : isCornF a b c d = true) : 0 < sineF a b c d ∧ sineF a b c d ≤ 2000000000000 ∧ sineF a b c d = (detF a b c d).natAbs := by
  rw [isCornF_iff] at h
  have h1 := sine_pt h.1 h.2.1
  have h2 := det_pt h.1 h.2.1
  omega

/-- The determinant with the mate. -/
def twistF (a b c d : Int) : Int := detF c d (mateX a b) (mateY a b)
def cosF (a b c d : Int) : Int := if twistF a b c d % sineF a b c d = 0 then sineF a b c d else twistF a b c d % sineF a b c d

theorem twist_corn {a b c d : Int} (h : isCornF a b c d = true) : -2000000000000 ≤ twistF a b c d ∧ twistF a b c d ≤ 2000000000000 := by
  rw [isCornF_iff] at h
  have := det_pt h.2.1 (mate_pt h.1)
  exact this.2

theorem cos_impl {a b c d : Int} (h : isCornF a b c d = true) : w64 (modF (w64 (twistF a b c d - 1)) (sineF a b c d) + 1) = cosF a b c d := by
  have h1 := sine_corn h
  have h2 := twist_corn h
  rw [w64_in (n := twistF a b c d - 1) (by omega) (by omega), modF_eq h1.1 (by omega) (by omega) (by omega)]
  have h3 := Int.emod_nonneg (twistF a b c d) (show sineF a b c d ≠ 0 by omega)
  have h4 := Int.emod_lt_of_pos (twistF a b c d) h1.1
  have h5 := Int.mul_ediv_add_emod (twistF a b c d) (sineF a b c d)
  have h6 := Int.emod_nonneg (twistF a b c d - 1) (show sineF a b c d ≠ 0 by omega)
  have h7 := Int.emod_lt_of_pos (twistF a b c d - 1) h1.1
  rw [w64_in (by omega) (by omega)]
  unfold cosF
  by_cases h0 : twistF a b c d % sineF a b c d = 0
  · rw [if_pos h0, emod_of h1.1 (twistF a b c d / sineF a b c d - 1) (r := sineF a b c d - 1) (by rw [Int.mul_sub]; omega) (by omega) (by omega)]
    omega
  · rw [if_neg h0, emod_of h1.1 (twistF a b c d / sineF a b c d) (r := twistF a b c d % sineF a b c d - 1) (by omega) (by omega) (by omega)]
    omega
theorem cos_rest {a b c d : Int} (h : isCornF a b c d = true) : restF (sineF a b c d) (twistF a b c d) = twistF a b c d % sineF a b c d := by
  have h1 := sine_corn h
  exact restF_eq h1.1 (by omega)
theorem sine_nz {a b c d : Int} (h : isCornF a b c d = true) : decide (sineF a b c d = 0) = false := decide_eq_false (by have := sine_corn h; omega)
theorem corn_p1 {a b c d : Int} (h : isCornF a b c d = true) : isPtF a b = true := (isCornF_iff.1 h).1
theorem corn_p2 {a b c d : Int} (h : isCornF a b c d = true) : isPtF c d = true := (isCornF_iff.1 h).2.1

theorem cos_0 {a b c d : Int} (h : isCornF a b c d = true) (h0 : decide (restF (sineF a b c d) (twistF a b c d) = 0) = true) : sineF a b c d = cosF a b c d := by
  have h1 := eq_of_dec h0
  rw [cos_rest h] at h1
  unfold cosF
  rw [if_pos h1]
theorem cos_1 {a b c d : Int} (h : isCornF a b c d = true) (h0 : decide (restF (sineF a b c d) (twistF a b c d) = 0) = false) : restF (sineF a b c d) (twistF a b c d) = cosF a b c d := by
  have h1 := ne_of_dec h0
  rw [cos_rest h] at h1 ⊢
  unfold cosF
  rw [if_neg h1]
theorem cos_bounds {a b c d : Int} (h : isCornF a b c d = true) : 1 ≤ cosF a b c d ∧ cosF a b c d ≤ sineF a b c d := by
  have h1 := sine_corn h
  have h3 := Int.emod_nonneg (twistF a b c d) (show sineF a b c d ≠ 0 by omega)
  have h4 := Int.emod_lt_of_pos (twistF a b c d) h1.1
  unfold cosF
  split <;> omega

def sameF (a b c d e f g i : Int) : Bool := decide (sineF a b c d = sineF e f g i) && decide (cosF a b c d = cosF e f g i)

theorem gcdF_neg {a b : Int} (h : isPtF a b = true) : gcdF (-a) (-b) = gcdF a b := by
  rw [isPtF_iff] at h
  rw [gcdF_eq (by omega) (by omega), gcdF_eq (by omega) (by omega), Int.neg_gcd, Int.gcd_neg]
theorem neg_pt {a b : Int} (h : isPtF a b = true) : w64 (0 - a) = -a ∧ w64 (0 - b) = -b ∧ isPtF (-a) (-b) = true := by
  rw [isPtF_iff] at *
  refine ⟨?_, ?_, by omega⟩ <;> rw [w64_in (by omega) (by omega)] <;> omega
theorem corn_swap {a b c d : Int} (h : isCornF a b c d = true) : isCornF c d a b = true := by
  rw [isCornF_iff] at *
  obtain ⟨h1, h2, h3, h4, h5⟩ := h
  refine ⟨h2, h1, h4, h3, ?_⟩
  rw [(det_pt h1 h2).1] at h5
  rw [(det_pt h2 h1).1, Int.mul_comm c b, Int.mul_comm d a]
  omega
theorem corn_adj {a b c d : Int} (h : isCornF a b c d = true) : isCornF c d (w64 (0 - a)) (w64 (0 - b)) = true := by
  have h' := isCornF_iff.1 (corn_swap h)
  obtain ⟨h1, h2, h3, h4, h5⟩ := h'
  obtain ⟨e1, e2, e3⟩ := neg_pt h2
  rw [e1, e2, isCornF_iff]
  refine ⟨h1, e3, h3, ?_, ?_⟩
  · unfold primF at *
    rw [gcdF_neg h2]; exact h4
  · rw [(det_pt h1 h2).1] at h5
    rw [(det_pt h1 e3).1, Int.mul_neg, Int.mul_neg]
    omega

/-! ## Matrices -/

def apF (a b e f : Int) : Int := w64 (w64 (a * e) + w64 (b * f))
def turnF (a b : Int) : Bool := decide (b < 0) || (decide (b = 0) && decide (a < 0))
def turnX (a b : Int) : Int := selF (turnF a b) (w64 (0 - a)) a
def turnY (a b : Int) : Int := selF (turnF a b) (w64 (0 - b)) b
theorem plusF_0neg (a : Int) : plusF 0 (-1) a = w64 (0 - a) := plusF_neg 0 a

/-! ## Whole roots -/

def rootL (d w : Int) : Int := if h : 0 ≤ w ∧ (w + 1) * (w + 1) ≤ d then rootL d (w + 1) else w
termination_by (d - w).toNat
decreasing_by
  have : (w + 1) * 1 ≤ (w + 1) * (w + 1) := Int.mul_le_mul_of_nonneg_left (by omega) (by omega)
  omega
structure RInv (d w : Int) : Prop where
  d1 : 1 ≤ d
  d2 : d ≤ 4000
  w0 : 0 ≤ w
  w2 : w ≤ 4000
  eq : rootL d w = rootL d 0
theorem root_start {d : Int} (h : inF d 1 4000 = true) : RInv d 0 := by
  unfold inF at h
  simp only [Bool.and_eq_true, decide_eq_true_eq, ge_iff_le] at h
  exact ⟨h.1, h.2, by omega, by omega, rfl⟩
theorem root_sq {d w : Int} (h : RInv d w) : w64 (w64 (w + 1) * w64 (w + 1)) = (w + 1) * (w + 1) := by
  have h1 := h.w0
  have h2 := h.w2
  have := mul_abs (x := w + 1) (y := w + 1) (m := 4001) (n := 4001) (by omega) (by omega) (by omega) (by omega) (by omega)
  rw [w64_in (n := w + 1) (by omega) (by omega), w64_in (by omega) (by omega)]
theorem root_lt {d w : Int} (h : RInv d w) (hc : decide (w64 (w64 (w + 1) * w64 (w + 1)) ≤ d) = true) : w64 (w + 1) = w + 1 ∧ w + 1 ≤ d ∧ (w + 1) * (w + 1) ≤ d := by
  rw [root_sq h] at hc
  have h1 := h.w0
  have h2 := h.w2
  have hc' := of_decide_eq_true hc
  have : (w + 1) * 1 ≤ (w + 1) * (w + 1) := Int.mul_le_mul_of_nonneg_left (by omega) (by omega)
  exact ⟨w64_in (by omega) (by omega), by omega, hc'⟩
theorem root_next {d w : Int} (h : RInv d w) (hc : decide (w64 (w64 (w + 1) * w64 (w + 1)) ≤ d) = true) : RInv d (w64 (w + 1)) := by
  have h1 := h.w0
  have h2 := h.w2
  have h3 := h.d2
  obtain ⟨e, e1, e2⟩ := root_lt h hc
  rw [e]
  refine ⟨h.d1, h.d2, by omega, by omega, ?_⟩
  rw [← h.eq]
  conv => rhs; rw [rootL]
  rw [dif_pos ⟨by omega, e2⟩]
theorem root_mu {d w : Int} (h : RInv d w) (hc : decide (w64 (w64 (w + 1) * w64 (w + 1)) ≤ d) = true) : (d - w64 (w + 1)).toNat < (d - w).toNat := by
  obtain ⟨e, e1, e2⟩ := root_lt h hc
  omega
theorem root_end {d w : Int} (h : RInv d w) (hc : decide (w64 (w64 (w + 1) * w64 (w + 1)) ≤ d) = false) : w = rootL d 0 := by
  rw [root_sq h] at hc
  have hc' := of_decide_eq_false hc
  rw [← h.eq, rootL, dif_neg (fun h' => hc' h'.2)]

def discF (d : Int) : Bool := inF d 1 4000 && !decide (w64 (rootL d 0 * rootL d 0) = d)
def formD (a b c : Int) : Int := w64 (w64 (b * b) - w64 (w64 (4 * a) * c))
def isFormF (a b c : Int) : Bool := isCoordF a && isCoordF b && isCoordF c && discF (formD a b c)

end Go.Ev
