/-
  Several texts of this work in one (a claim holds at most 60 files).
  Conditions: as each contract states.
-/
import Derived.Test.YtjakdmfodnpkkaaKM1
import Derived.Test.YtjakdmfodnpkkaaKM2
section
/-
  Mates have the determinant 1; sails: the plain law.
  Conditions: none.
-/
set_option linter.unusedVariables false
set_option linter.unusedSimpArgs false
namespace Go.Ev
open Go.RowKit

/-! ## The factor that 'bezout' finds -/

theorem gcd_emod' (a m : Int) : Int.gcd (a % m) m = Int.gcd a m := by
  have := Int.gcd_add_mul_left_left m (a % m) (a / m)
  rw [Int.emod_add_mul_ediv] at this
  exact this.symm

theorem bezL_mul {a m : Int} : ∀ (n : Nat) (r s x y : Int), s.natAbs ≤ n → 0 ≤ r → 0 ≤ s → m ∣ a * x - r → m ∣ a * y - s → m ∣ a * bezL r s x y - (Int.gcd r s : Int)
  | 0, r, s, x, y, hn, hr, hs, h1, h2 => by
    have : s = 0 := by omega
    subst this
    rw [bezL_zero, Int.gcd_zero_right, Int.natAbs_of_nonneg hr]
    exact h1
  | n + 1, r, s, x, y, hn, hr, hs, h1, h2 => by
    by_cases h0 : s = 0
    · subst h0
      rw [bezL_zero, Int.gcd_zero_right, Int.natAbs_of_nonneg hr]
      exact h1
    · rw [bezL_step h0]
      have e1 : r.tmod s = r % s := tmod_pos hr
      have e2 : r.tdiv s = r / s := tdiv_pos hr
      have h3 := Int.emod_lt_of_pos r (show 0 < s by omega)
      have h4 := Int.emod_nonneg r h0
      have h5 := Int.emod_add_mul_ediv r s
      have hg : Int.gcd r s = Int.gcd s (r % s) := by
        rw [Int.gcd_comm s, gcd_emod']
      rw [e1, e2, hg]
      refine bezL_mul n s (r % s) y (x - r / s * y) (by omega) hs h4 h2 ?_
      have : a * (x - r / s * y) - r % s = (a * x - r) - r / s * (a * y - s) := by
        have : r % s = r - s * (r / s) := by omega
        rw [this]
        grind
      rw [this]
      exact Int.dvd_sub h1 (Int.dvd_mul_of_dvd_right h2)

theorem bez_mul {a m : Int} (h : BezOk a m) (hg : Int.gcd a m = 1) : m ∣ a * bezF a m - 1 := by
  have h0 := h.pos
  have h1 := Int.emod_nonneg a (show m ≠ 0 by omega)
  have := bezL_mul (a := a) (m := m) m.natAbs (a % m) m 1 0 (Nat.le_refl _) h1 (by omega)
    (by rw [Int.mul_one]; exact ⟨a / m, by have := Int.emod_add_mul_ediv a m; omega⟩) ⟨-1, by rw [Int.mul_zero, Int.mul_neg, Int.mul_one]; omega⟩
  have hgg : Int.gcd (a % m) m = 1 := by rw [gcd_emod']; exact hg
  rw [hgg] at this
  exact this

theorem prim_gcd {a b : Int} (h : isPtF a b = true) (hp : primF a b = true) : Int.gcd a b = 1 := by
  rw [isPtF_iff] at h
  have h1 := gcdF_eq (a := a) (b := b) (by omega) (by omega)
  simp only [primF, decide_eq_true_eq] at hp
  rw [hp] at h1
  omega

theorem mate_det {a b : Int} (h : isPtF a b = true) (hp : primF a b = true) : a * mateY a b - b * mateX a b = 1 := by
  have hg := prim_gcd h hp
  by_cases ha : a = 0
  · subst ha
    rw [Int.gcd_zero_left] at hg
    simp only [mateX, mateY, if_true]
    rcases (show b = 1 ∨ b = -1 by omega) with rfl | rfl <;> decide
  · have hb := bez_mul (pt_bez h ha) (by
      have e : Int.gcd b (a.natAbs : Int) = Int.gcd b a := by simp [Int.gcd]
      rw [e, Int.gcd_comm]; exact hg)
    have hd : a ∣ 1 + b * mateX a b := by
      have h1 : (a.natAbs : Int) ∣ 1 + b * mateX a b := by
        simp only [mateX, ha, if_false]
        have h2 := Int.emod_add_mul_ediv (-(bezF b a.natAbs)) (a.natAbs : Int)
        obtain ⟨k, hk⟩ := hb
        refine ⟨-k - b * ((-(bezF b a.natAbs)) / (a.natAbs : Int)), ?_⟩
        generalize (-(bezF b a.natAbs)) % (a.natAbs : Int) = r at *
        generalize (-(bezF b a.natAbs)) / (a.natAbs : Int) = q at *
        generalize (a.natAbs : Int) = m at *
        generalize bezF b m = f at *
        have : r = -f - m * q := by omega
        rw [this]
        have h3 : 1 = b * f - m * k := by omega
        rw [Int.mul_sub m]
        grind
      exact Int.natAbs_dvd.1 h1
    have : a * mateY a b = 1 + b * mateX a b := by
      simp only [mateY, ha, if_false]
      exact Int.mul_tdiv_cancel' hd
    omega

/-! ## Sails -/

/-- Two points of a sail, one behind the other: (u, v) and (x, y). -/
structure SailI (a0 a1 b0 b1 u v x y : Int) : Prop where
  one : u * y - v * x = 1
  d0 : 0 ≤ x * b1 - y * b0
  dd : x * b1 - y * b0 < u * b1 - v * b0
  e0 : 0 ≤ a0 * v - a1 * u
  ee : a0 * v - a1 * u < a0 * y - a1 * x
  ca : isPtF a0 a1 = true
  cb : isPtF b0 b1 = true
  w : 0 < a0 * b1 - a1 * b0
  cu : isPtF u v = true

section
variable {a0 a1 b0 b1 u v x y : Int}

theorem det_split (a0 a1 b0 b1 u v x y : Int) : (a0 * b1 - a1 * b0) * (u * y - v * x) = (a0 * y - a1 * x) * (u * b1 - v * b0) - (a0 * v - a1 * u) * (x * b1 - y * b0) := by grind
theorem coord_split (a0 a1 b0 b1 x y : Int) : (a0 * b1 - a1 * b0) * x = (x * b1 - y * b0) * a0 + (a0 * y - a1 * x) * b0 ∧ (a0 * b1 - a1 * b0) * y = (x * b1 - y * b0) * a1 + (a0 * y - a1 * x) * b1 := ⟨by grind, by grind⟩

theorem SailI.sum (h : SailI a0 a1 b0 b1 u v x y) : (x * b1 - y * b0) + (a0 * y - a1 * x) ≤ a0 * b1 - a1 * b0 := by
  have h1 := det_split a0 a1 b0 b1 u v x y
  rw [h.one, Int.mul_one] at h1
  have h2 := h.d0; have h3 := h.dd; have h4 := h.e0; have h5 := h.ee
  generalize x * b1 - y * b0 = D at *
  generalize a0 * y - a1 * x = E at *
  generalize u * b1 - v * b0 = D' at *
  generalize a0 * v - a1 * u = E' at *
  rw [h1]
  have e1 : E * (D + 1) ≤ E * D' := Int.mul_le_mul_of_nonneg_left (by omega) (by omega)
  have e2 : E' * D ≤ (E - 1) * D := Int.mul_le_mul_of_nonneg_right (by omega) h2
  rw [Int.mul_add, Int.mul_one] at e1
  rw [Int.sub_mul, Int.one_mul] at e2
  omega

theorem le_of_scaled {W x D E p q : Int} (hw : 0 < W) (h : W * x = D * p + E * q) (hD : 0 ≤ D) (hE : 0 ≤ E) (hs : D + E ≤ W) (hp1 : -1000000 ≤ p) (hp2 : p ≤ 1000000) (hq1 : -1000000 ≤ q) (hq2 : q ≤ 1000000) : -1000000 ≤ x ∧ x ≤ 1000000 := by
  have e1 : D * p ≤ D * 1000000 := Int.mul_le_mul_of_nonneg_left hp2 hD
  have e2 : E * q ≤ E * 1000000 := Int.mul_le_mul_of_nonneg_left hq2 hE
  have e3 : D * (-1000000) ≤ D * p := Int.mul_le_mul_of_nonneg_left hp1 hD
  have e4 : E * (-1000000) ≤ E * q := Int.mul_le_mul_of_nonneg_left hq1 hE
  constructor
  · rcases (by omega : x < -1000000 ∨ -1000000 ≤ x) with h5 | h5
    · have : W * x ≤ W * (-1000001) := Int.mul_le_mul_of_nonneg_left (by omega) (by omega)
      omega
    · exact h5
  · rcases (by omega : x > 1000000 ∨ x ≤ 1000000) with h5 | h5
    · have : W * 1000001 ≤ W * x := Int.mul_le_mul_of_nonneg_left (by omega) (by omega)
      omega
    · exact h5

theorem SailI.pt (h : SailI a0 a1 b0 b1 u v x y) : isPtF x y = true := by
  have h1 := coord_split a0 a1 b0 b1 x y
  have h2 := isPtF_iff.1 h.ca
  have h3 := isPtF_iff.1 h.cb
  have hs := h.sum
  have h4 := h.e0; have h5 := h.ee
  rw [isPtF_iff]
  exact ⟨le_of_scaled h.w h1.1 h.d0 (by omega) hs h2.1.1 h2.1.2 h3.1.1 h3.1.2, le_of_scaled h.w h1.2 h.d0 (by omega) hs h2.2.1 h2.2.2 h3.2.1 h3.2.2⟩

/-- The turn at (x, y). -/
def turnL (b0 b1 u v x y : Int) : Int := -((-(u * b1 - v * b0)) / (x * b1 - y * b0))

theorem SailI.turn (h : SailI a0 a1 b0 b1 u v x y) (hd : x * b1 - y * b0 ≠ 0) :
    2 ≤ turnL b0 b1 u v x y ∧ turnL b0 b1 u v x y ≤ 2000000000000 ∧ SailI a0 a1 b0 b1 x y (turnL b0 b1 u v x y * x - u) (turnL b0 b1 u v x y * y - v) := by
  have h2 := h.d0; have h3 := h.dd; have h4 := h.e0; have h5 := h.ee; have h6 := h.one
  have hu := isPtF_iff.1 h.cu
  have hb := isPtF_iff.1 h.cb
  have hD' : u * b1 - v * b0 ≤ 2000000000000 := by
    have := mul_abs (x := u) (y := b1) (m := 1000000) (n := 1000000) (by omega) (by omega) (by omega) (by omega) (by omega)
    have := mul_abs (x := v) (y := b0) (m := 1000000) (n := 1000000) (by omega) (by omega) (by omega) (by omega) (by omega)
    omega
  have hb1 := ediv_bounds (a := -(u * b1 - v * b0)) (b := x * b1 - y * b0) (by omega)
  have hpt := h.pt
  have hc : turnL b0 b1 u v x y = -((-(u * b1 - v * b0)) / (x * b1 - y * b0)) := rfl
  have key : ∀ c : Int, (c * x - u) * b1 - (c * y - v) * b0 = c * (x * b1 - y * b0) - (u * b1 - v * b0) := fun c => by grind
  have key2 : ∀ c : Int, a0 * (c * y - v) - a1 * (c * x - u) = c * (a0 * y - a1 * x) - (a0 * v - a1 * u) := fun c => by grind
  have key3 : ∀ c : Int, x * (c * y - v) - y * (c * x - u) = u * y - v * x := fun c => by grind
  generalize turnL b0 b1 u v x y = c at *
  have hc2 : 2 ≤ c := by
    rcases (by omega : c ≤ 1 ∨ 2 ≤ c) with hc1 | hc1
    · have : (x * b1 - y * b0) * (-1) ≤ (x * b1 - y * b0) * ((-(u * b1 - v * b0)) / (x * b1 - y * b0)) := Int.mul_le_mul_of_nonneg_left (by omega) h2
      omega
    · exact hc1
  have hcD : (x * b1 - y * b0) * ((-(u * b1 - v * b0)) / (x * b1 - y * b0)) = -(c * (x * b1 - y * b0)) := by
    rw [hc, Int.neg_mul, Int.neg_neg, Int.mul_comm]
  refine ⟨hc2, ?_, ⟨by rw [key3]; exact h6, by rw [key]; omega, by rw [key]; omega, by omega, ?_, h.ca, h.cb, h.w, hpt⟩⟩
  · rcases (by omega : 2000000000000 < c ∨ c ≤ 2000000000000) with hc1 | hc1
    · have : (c - 1) * 1 ≤ (c - 1) * (x * b1 - y * b0) := Int.mul_le_mul_of_nonneg_left (by omega) (by omega)
      rw [Int.mul_one, Int.sub_mul, Int.one_mul] at this
      omega
    · exact hc1
  · rw [key2]
    have : 2 * (a0 * y - a1 * x) ≤ c * (a0 * y - a1 * x) := Int.mul_le_mul_of_nonneg_right hc2 (by omega)
    omega

/-- The sail ends where the determinant with b is 0. -/
theorem SailI.last (h : SailI a0 a1 b0 b1 u v x y) (hp : Int.gcd b0 b1 = 1) : x * b1 - y * b0 = 0 ↔ (x = b0 ∧ y = b1) := by
  constructor
  · intro hd
    have h1 := det_split a0 a1 b0 b1 u v x y
    rw [h.one, hd, Int.mul_one, Int.mul_zero, Int.sub_zero] at h1
    have h2 := coord_split a0 a1 b0 b1 x y
    rw [hd, Int.zero_mul, Int.zero_mul, Int.zero_add, Int.zero_add] at h2
    have h5 := h.ee; have h4 := h.e0; have h6 := h.dd; have hw := h.w
    generalize a0 * y - a1 * x = E at *
    generalize u * b1 - v * b0 = d at *
    generalize a0 * b1 - a1 * b0 = W at *
    rw [h1] at h2
    have e1 : d * x = b0 := Int.eq_of_mul_eq_mul_left (show E ≠ 0 by omega) (by rw [← Int.mul_assoc]; exact h2.1)
    have e2 : d * y = b1 := Int.eq_of_mul_eq_mul_left (show E ≠ 0 by omega) (by rw [← Int.mul_assoc]; exact h2.2)
    have hdv : (d.natAbs : Int) ∣ 1 := by
      have g1 : (d.natAbs : Int) ∣ b0 := Int.natAbs_dvd.2 ⟨x, e1.symm⟩
      have g2 : (d.natAbs : Int) ∣ b1 := Int.natAbs_dvd.2 ⟨y, e2.symm⟩
      have := Int.dvd_gcd g1 g2
      rw [hp] at this
      exact Int.natCast_dvd_natCast.2 this
    have : d = 1 := by
      have := Int.le_of_dvd (by omega) hdv
      omega
    subst this
    exact ⟨by omega, by omega⟩
  · rintro ⟨rfl, rfl⟩
    grind
end

/-- The rest of a sail from (x, y) on, the point ahead of it being (u, v): at most so many points. -/
def sailF (b0 b1 : Int) : Nat → Int → Int → Int → Int → Option (List (Int × Int) × List Int)
  | 0, _, _, _, _ => none
  | k + 1, u, v, x, y => if x * b1 - y * b0 = 0 then some ([(x, y)], []) else
      (sailF b0 b1 k x y (turnL b0 b1 u v x y * x - u) (turnL b0 b1 u v x y * y - v)).map fun r => ((x, y) :: r.1, turnL b0 b1 u v x y :: r.2)

/-- The second point of a sail. -/
def shiftL (a0 a1 b0 b1 : Int) : Int := -((mateX a0 a1 * b1 - mateY a0 a1 * b0) / (a0 * b1 - a1 * b0))
def p1x (a0 a1 b0 b1 : Int) : Int := mateX a0 a1 + shiftL a0 a1 b0 b1 * a0
def p1y (a0 a1 b0 b1 : Int) : Int := mateY a0 a1 + shiftL a0 a1 b0 b1 * a1
def sailR (a0 a1 b0 b1 : Int) : Option (List (Int × Int) × List Int) := sailF b0 b1 1999 a0 a1 (p1x a0 a1 b0 b1) (p1y a0 a1 b0 b1)

theorem SailI.start {a0 a1 b0 b1 : Int} (ha : isPtF a0 a1 = true) (hb : isPtF b0 b1 = true) (hp : primF a0 a1 = true) (hw : 0 < a0 * b1 - a1 * b0) : SailI a0 a1 b0 b1 a0 a1 (p1x a0 a1 b0 b1) (p1y a0 a1 b0 b1) := by
  have hm := mate_det ha hp
  have h1 := ediv_bounds (a := mateX a0 a1 * b1 - mateY a0 a1 * b0) hw
  unfold p1x p1y shiftL
  generalize (mateX a0 a1 * b1 - mateY a0 a1 * b0) / (a0 * b1 - a1 * b0) = q at *
  generalize mateX a0 a1 = m0 at *
  generalize mateY a0 a1 = m1 at *
  have e1 : (m0 + -q * a0) * b1 - (m1 + -q * a1) * b0 = (m0 * b1 - m1 * b0) - (a0 * b1 - a1 * b0) * q := by grind
  have e2 : a0 * (m1 + -q * a1) - a1 * (m0 + -q * a0) = a0 * m1 - a1 * m0 := by grind
  have e3 : a0 * a1 - a1 * a0 = 0 := by grind
  exact ⟨by rw [e2]; exact hm, by rw [e1]; omega, by rw [e1]; omega, by omega, by rw [e2, hm]; omega, ha, hb, hw, ha⟩

/-! ### The same in the program's own words -/

def shiftP (a0 a1 b0 b1 : Int) : Int := w64 (0 - floorF (detF (mateX a0 a1) (mateY a0 a1) b0 b1) (detF a0 a1 b0 b1))
def turnP (b0 b1 u v x y : Int) : Int := w64 (0 - floorF (w64 (0 - detF u v b0 b1)) (detF x y b0 b1))

structure AngOk (a0 a1 b0 b1 : Int) : Prop where
  ca : isPtF a0 a1 = true
  cb : isPtF b0 b1 = true
  pa : primF a0 a1 = true
  pb : primF b0 b1 = true
  w : 1 ≤ detF a0 a1 b0 b1

section
variable {a0 a1 b0 b1 u v x y : Int}
theorem AngOk.w' (h : AngOk a0 a1 b0 b1) : 0 < a0 * b1 - a1 * b0 := by
  have := (det_pt h.ca h.cb).1
  have := h.w
  omega
theorem AngOk.gcd (h : AngOk a0 a1 b0 b1) : Int.gcd b0 b1 = 1 := prim_gcd h.cb h.pb
theorem AngOk.start (h : AngOk a0 a1 b0 b1) : SailI a0 a1 b0 b1 a0 a1 (p1x a0 a1 b0 b1) (p1y a0 a1 b0 b1) := SailI.start h.ca h.cb h.pa h.w'
theorem AngOk.shift (h : AngOk a0 a1 b0 b1) : shiftP a0 a1 b0 b1 = shiftL a0 a1 b0 b1 := by
  have h1 := det_pt (mate_pt h.ca) h.cb
  have h2 := det_pt h.ca h.cb
  have h3 := h.w'
  unfold shiftP shiftL
  rw [h1.1, h2.1, floorF_eq h3 (by omega) (by omega)]
  have := ediv_abs (a := mateX a0 a1 * b1 - mateY a0 a1 * b0) (m := 2000000000000) h3 (by omega) (by omega)
  rw [w64_in (by omega) (by omega), Int.zero_sub]
theorem AngOk.p1 (h : AngOk a0 a1 b0 b1) : plusF (mateX a0 a1) (shiftP a0 a1 b0 b1) a0 = p1x a0 a1 b0 b1 ∧ plusF (mateY a0 a1) (shiftP a0 a1 b0 b1) a1 = p1y a0 a1 b0 b1 := by
  have hp := isPtF_iff.1 h.start.pt
  rw [h.shift]
  unfold p1x p1y at *
  constructor
  · unfold plusF; rw [w64_add_r, w64_in (by omega) (by omega)]
  · unfold plusF; rw [w64_add_r, w64_in (by omega) (by omega)]

theorem SailI.turnP (h : SailI a0 a1 b0 b1 u v x y) (hd : x * b1 - y * b0 ≠ 0) : Ev.turnP b0 b1 u v x y = turnL b0 b1 u v x y := by
  have h1 := det_pt h.cu h.cb
  have h2 := det_pt h.pt h.cb
  have h3 := h.d0
  have ht := h.turn hd
  unfold Ev.turnP
  rw [h2.1, w64_in (n := 0 - detF u v b0 b1) (by omega) (by omega), h1.1, floorF_eq (by omega) (by omega) (by omega), Int.zero_sub (u * b1 - v * b0)]
  have e : turnL b0 b1 u v x y = -((-(u * b1 - v * b0)) / (x * b1 - y * b0)) := rfl
  rw [w64_in (by omega) (by omega), Int.zero_sub, e]
theorem SailI.nextP (h : SailI a0 a1 b0 b1 u v x y) (hd : x * b1 - y * b0 ≠ 0) :
    plusF (w64 (0 - u)) (Ev.turnP b0 b1 u v x y) x = turnL b0 b1 u v x y * x - u ∧ plusF (w64 (0 - v)) (Ev.turnP b0 b1 u v x y) y = turnL b0 b1 u v x y * y - v := by
  have ht := (h.turn hd).2.2
  have hp := isPtF_iff.1 ht.pt
  have hu := isPtF_iff.1 h.cu
  rw [h.turnP hd]
  constructor
  · unfold plusF; rw [w64_add_r, w64_in (n := 0 - u) (by omega) (by omega), w64_in (by omega) (by omega)]; omega
  · unfold plusF; rw [w64_add_r, w64_in (n := 0 - v) (by omega) (by omega), w64_in (by omega) (by omega)]; omega
theorem SailI.detP (h : SailI a0 a1 b0 b1 u v x y) : detF x y b0 b1 = x * b1 - y * b0 := (det_pt h.pt h.cb).1
end

/-- The state of the loop that makes a sail: P and T are laid down, (x, y) is to come. -/
structure SailS (a0 a1 b0 b1 : Int) (tot : Option (List (Int × Int) × List Int)) (u v x y : Int) (L sp : List Value) (n c : Nat) (M sq : List Value) (k d : Nat) (P : List (Int × Int)) (T : List Int) : Prop where
  inv : SailI a0 a1 b0 b1 u v x y
  row : Row L sp n c 2
  lst : L = pl P
  row2 : Row M sq k d 1
  lst2 : M = il T
  kn : k = n
  n1 : 1 ≤ n
  n2 : n ≤ 2000
  eq : (sailF b0 b1 (2000 - n) u v x y).map (fun r => (P ++ r.1, T ++ r.2)) = tot

def sailT (a0 a1 b0 b1 t0 : Int) : Option (List (Int × Int) × List Int) := (sailR a0 a1 b0 b1).map fun r => ((a0, a1) :: r.1, t0 :: r.2)

theorem SailS.start {a0 a1 b0 b1 t0 : Int} (h : AngOk a0 a1 b0 b1) : SailS a0 a1 b0 b1 (sailT a0 a1 b0 b1 t0) a0 a1 (plusF (mateX a0 a1) (shiftP a0 a1 b0 b1) a0) (plusF (mateY a0 a1) (shiftP a0 a1 b0 b1) a1)
    [iv a0, iv a1] [] 1 1 [iv t0] [] 1 1 [(a0, a1)] [t0] := by
  rw [h.p1.1, h.p1.2]
  exact ⟨h.start, Row.lit rfl rfl, rfl, Row.lit rfl rfl, rfl, rfl, by omega, by omega, rfl⟩

section
variable {a0 a1 b0 b1 u v x y : Int} {tot : Option (List (Int × Int) × List Int)} {L sp M sq sp' sq' : List Value} {n c k d c' d' : Nat} {P : List (Int × Int)} {T : List Int}
theorem SailS.full (h : SailS a0 a1 b0 b1 tot u v x y L sp n c M sq k d P T) (hn : n = 2000) : tot = none := by
  have := h.eq
  subst hn
  rw [← this]; rfl
theorem SailS.next (h : SailS a0 a1 b0 b1 tot u v x y L sp n c M sq k d P T) (hd : x * b1 - y * b0 ≠ 0) (hn : ¬ n + 1 > 2000) (hr : Row (L ++ [iv x, iv y]) sp' (n + 1) c' 2) (hr2 : Row (M ++ [iv (turnP b0 b1 u v x y)]) sq' (k + 1) d' 1) :
    SailS a0 a1 b0 b1 tot x y (plusF (w64 (0 - u)) (turnP b0 b1 u v x y) x) (plusF (w64 (0 - v)) (turnP b0 b1 u v x y) y) (L ++ [iv x, iv y]) sp' (n + 1) c' (M ++ [iv (turnP b0 b1 u v x y)]) sq' (k + 1) d' (P ++ [(x, y)]) (T ++ [turnP b0 b1 u v x y]) := by
  have hp := h.inv.nextP hd
  rw [hp.1, hp.2]
  have ht := h.inv.turnP hd
  refine ⟨(h.inv.turn hd).2.2, hr, by rw [pl_snoc, h.lst], hr2, by rw [il_snoc, h.lst2], by rw [h.kn], by omega, by omega, ?_⟩
  rw [← h.eq]
  have e : 2000 - n = (2000 - (n + 1)) + 1 := by omega
  rw [e, sailF, if_neg hd, ht, Option.map_map]
  congr 1
  funext r
  simp
theorem SailS.last (h : SailS a0 a1 b0 b1 tot u v x y L sp n c M sq k d P T) (hd : x * b1 - y * b0 = 0) (hn : ¬ n + 1 > 2000) : tot = some (P ++ [(x, y)], T) := by
  rw [← h.eq]
  have e : 2000 - n = (2000 - (n + 1)) + 1 := by omega
  rw [e, sailF, if_pos hd]
  simp
theorem SailS.next' (h : SailS a0 a1 b0 b1 tot u v x y L sp n c M sq k d P T) (hd : x * b1 - y * b0 ≠ 0) (hn : ¬ n + 1 > 2000) (hr : Row (L ++ [iv x, iv y]) sp' (n + 1) c' 2) (hr2 : Row (M ++ [iv (turnP b0 b1 u v x y)]) sq' (k + 1) d' 1) :
    SailS a0 a1 b0 b1 tot x y (plusF (plusF 0 (-1) u) (turnP b0 b1 u v x y) x) (plusF (plusF 0 (-1) v) (turnP b0 b1 u v x y) y) (L ++ [iv x, iv y]) sp' (n + 1) c' (M ++ [iv (turnP b0 b1 u v x y)]) sq' (k + 1) d' (P ++ [(x, y)]) (T ++ [turnP b0 b1 u v x y]) := by
  rw [plusF_0neg u, plusF_0neg v]
  exact h.next hd hn hr hr2
theorem SailS.fits (h : SailS a0 a1 b0 b1 tot u v x y L sp n c M sq k d P T) {P' : List (Int × Int)} {T' : List Int} (ht : tot = some (P', T')) : ¬ n + 1 > 2000 := fun hn => by
  have := h.full (by have := h.n2; omega)
  rw [ht] at this
  cases this
theorem SailS.fin (h : SailS a0 a1 b0 b1 tot u v x y L sp n c M sq k d P T) {P' : List (Int × Int)} {T' : List Int} (ht : tot = some (P', T')) (hd : x * b1 - y * b0 = 0) (t : Int) : L ++ [iv x, iv y] = pl P' ∧ M ++ [iv t] = il (T' ++ [t]) := by
  have := h.last hd (h.fits ht)
  rw [ht] at this
  cases this
  exact ⟨by rw [pl_snoc, h.lst], by rw [il_snoc, h.lst2]⟩
theorem SailS.ne (h : SailS a0 a1 b0 b1 tot u v x y L sp n c M sq k d P T) (hg : Int.gcd b0 b1 = 1) (hne : ¬ (x = b0 ∧ y = b1)) : x * b1 - y * b0 ≠ 0 := fun h0 => hne ((h.inv.last hg).1 h0)
end

/-- The state of the spec's loop: (u, v) and (x, y) are the last two points that are laid down. -/
structure SailN (a0 a1 b0 b1 : Int) (tot : Option (List (Int × Int) × List Int)) (u v x y : Int) (L sp : List Value) (n c : Nat) (M sq : List Value) (k d : Nat) (P : List (Int × Int)) (T : List Int) : Prop where
  inv : SailI a0 a1 b0 b1 u v x y
  row : Row L sp n c 2
  lst : L = pl (P ++ [(u, v), (x, y)])
  row2 : Row M sq k d 1
  lst2 : M = il T
  kn : k + 1 = n
  pn : P.length + 2 = n
  n2 : n ≤ 2001
  eq : (sailF b0 b1 (2001 - n) u v x y).map (fun r => (P ++ (u, v) :: r.1, T ++ r.2)) = tot

theorem SailN.start {a0 a1 b0 b1 t0 : Int} (h : AngOk a0 a1 b0 b1) : SailN a0 a1 b0 b1 (sailT a0 a1 b0 b1 t0) a0 a1 (plusF (mateX a0 a1) (shiftP a0 a1 b0 b1) a0) (plusF (mateY a0 a1) (shiftP a0 a1 b0 b1) a1)
    [iv a0, iv a1, iv (plusF (mateX a0 a1) (shiftP a0 a1 b0 b1) a0), iv (plusF (mateY a0 a1) (shiftP a0 a1 b0 b1) a1)] [] 2 2 [iv t0] [] 1 1 [] [t0] := by
  rw [h.p1.1, h.p1.2]
  exact ⟨h.start, Row.lit rfl rfl, rfl, Row.lit rfl rfl, rfl, rfl, rfl, by omega, rfl⟩

section
variable {a0 a1 b0 b1 u v x y : Int} {tot : Option (List (Int × Int) × List Int)} {L sp M sq sp' sq' : List Value} {n c k d c' d' : Nat} {P : List (Int × Int)} {T : List Int}
theorem SailN.fits (h : SailN a0 a1 b0 b1 tot u v x y L sp n c M sq k d P T) {P' : List (Int × Int)} {T' : List Int} (ht : tot = some (P', T')) : ¬ n > 2000 := fun hn => by
  have := h.eq
  have h2 := h.n2
  rw [show 2001 - n = 0 by omega, ht] at this
  cases this
theorem SailN.next (h : SailN a0 a1 b0 b1 tot u v x y L sp n c M sq k d P T) (hd : x * b1 - y * b0 ≠ 0) (hn : ¬ n > 2000) (hr : Row (L ++ [iv (plusF (w64 (0 - u)) (turnP b0 b1 u v x y) x), iv (plusF (w64 (0 - v)) (turnP b0 b1 u v x y) y)]) sp' (n + 1) c' 2)
    (hr2 : Row (M ++ [iv (turnP b0 b1 u v x y)]) sq' (k + 1) d' 1) :
    SailN a0 a1 b0 b1 tot x y (plusF (w64 (0 - u)) (turnP b0 b1 u v x y) x) (plusF (w64 (0 - v)) (turnP b0 b1 u v x y) y) (L ++ [iv (plusF (w64 (0 - u)) (turnP b0 b1 u v x y) x), iv (plusF (w64 (0 - v)) (turnP b0 b1 u v x y) y)]) sp' (n + 1) c'
      (M ++ [iv (turnP b0 b1 u v x y)]) sq' (k + 1) d' (P ++ [(u, v)]) (T ++ [turnP b0 b1 u v x y]) := by
  have hp := h.inv.nextP hd
  rw [hp.1, hp.2] at hr ⊢
  have ht := h.inv.turnP hd
  have hpn := h.pn
  refine ⟨(h.inv.turn hd).2.2, hr, ?_, hr2, by rw [il_snoc, h.lst2], by have := h.kn; omega, by simp; omega, by omega, ?_⟩
  · rw [h.lst, show P ++ [(u, v)] ++ [(x, y), (turnL b0 b1 u v x y * x - u, turnL b0 b1 u v x y * y - v)] = (P ++ [(u, v), (x, y)]) ++ [(turnL b0 b1 u v x y * x - u, turnL b0 b1 u v x y * y - v)] by simp, pl_snoc]
  · rw [← h.eq]
    have e : 2001 - n = (2001 - (n + 1)) + 1 := by omega
    rw [e, sailF, if_neg hd, ht, Option.map_map]
    congr 1
    funext r
    simp
theorem SailN.fin (h : SailN a0 a1 b0 b1 tot u v x y L sp n c M sq k d P T) {P' : List (Int × Int)} {T' : List Int} (ht : tot = some (P', T')) (hd : x * b1 - y * b0 = 0) (t : Int) : L = pl P' ∧ M ++ [iv t] = il (T' ++ [t]) := by
  have h1 := h.eq
  have e : 2001 - n = (2001 - (n + 1)) + 1 := by have := h.fits ht; omega
  rw [e, sailF, if_pos hd, ht] at h1
  cases h1
  exact ⟨by rw [h.lst], by simp [il, h.lst2]⟩
theorem SailN.some (h : SailN a0 a1 b0 b1 tot u v x y L sp n c M sq k d P T) (hd : x * b1 - y * b0 = 0) (hn : ¬ n > 2000) : tot ≠ none := by
  have h1 := h.eq
  have e : 2001 - n = (2001 - (n + 1)) + 1 := by omega
  rw [e, sailF, if_pos hd] at h1
  rw [← h1]
  exact fun hh => by cases hh
theorem SailN.drop2 (h : SailN a0 a1 b0 b1 tot u v x y L sp n c M sq k d P T) : List.drop ((w64 ((n : Int) - 2)).toNat * 2) (L ++ sp) = [iv u, iv v, iv x, iv y] ++ sp := by
  have h1 := h.pn; have h2 := h.n2
  rw [w64_in (by omega) (by omega), h.lst, pl_app, List.append_assoc]
  have : ((n : Int) - 2).toNat * 2 = (pl P).length := by rw [pl_len]; omega
  rw [this, List.drop_left]
  rfl
theorem SailN.at2 (h : SailN a0 a1 b0 b1 tot u v x y L sp n c M sq k d P T) {o : Nat} (ho : o = (w64 ((n : Int) - 2)).toNat * 2) : List.take 2 (List.drop o (L ++ sp)) = [iv u, iv v] := by
  subst ho; rw [h.drop2]; rfl
theorem SailN.at20 (h : SailN a0 a1 b0 b1 tot u v x y L sp n c M sq k d P T) {o : Nat} (ho : o = (w64 ((n : Int) - 2)).toNat * 2) : List.take 1 (List.drop o (L ++ sp)) = [iv u] := by
  subst ho; rw [h.drop2]; rfl
theorem SailN.at21 (h : SailN a0 a1 b0 b1 tot u v x y L sp n c M sq k d P T) {o : Nat} (ho : o = (w64 ((n : Int) - 2)).toNat * 2 + 1) : List.take 1 (List.drop o (L ++ sp)) = [iv v] := by
  subst ho; rw [← List.drop_drop, h.drop2]; rfl
theorem SailN.at1 (h : SailN a0 a1 b0 b1 tot u v x y L sp n c M sq k d P T) {o : Nat} (ho : o = (w64 ((n : Int) - 1)).toNat * 2) : List.take 2 (List.drop o (L ++ sp)) = [iv x, iv y] := by
  subst ho
  have h1 := h.pn; have h2 := h.n2; have h3 := h.drop2
  have : (w64 ((n : Int) - 1)).toNat * 2 = (w64 ((n : Int) - 2)).toNat * 2 + 2 := by rw [w64_in (by omega) (by omega), w64_in (by omega) (by omega)]; omega
  rw [this, ← List.drop_drop, h3]; rfl
end

end Go.Ev
end

section
/-
  Expansions of fractions: the plain law.
  Conditions: none.
-/
set_option linter.unusedVariables false
set_option linter.unusedSimpArgs false
namespace Go.Ev
open Go.RowKit

structure ExpOk (a b : Int) : Prop where
  lo : -1000000 ≤ a
  hi : a ≤ 1000000
  b0 : 0 ≤ b
  b1 : b ≤ 1000000

def expL (p q : Int) : List Int := if h : 0 < q then p / q :: expL q (p % q) else []
termination_by q.toNat
decreasing_by
  have := Int.emod_lt_of_pos p h
  have := Int.emod_nonneg p (show q ≠ 0 by omega)
  omega
theorem expL_zero {p q : Int} (h : ¬ 0 < q) : expL p q = [] := by rw [expL]; simp [h]
theorem expL_step {p q : Int} (h : 0 < q) : expL p q = p / q :: expL q (p % q) := by rw [expL]; simp [h]

/-- The state of the loop: what is laid down, and what is left to be divided. -/
structure ExpI (a b x y : Int) (L : List Value) (xs : List Int) (sp : List Value) (n c : Nat) : Prop where
  ok : ExpOk x y
  row : Row L sp n c 1
  il : L = il xs
  eq : xs ++ expL x y = expL a b
  bd : n + y.toNat ≤ 1000000

theorem ExpI.start {a b : Int} (h : ExpOk a b) : ExpI a b a b [] [] [] 0 0 := ⟨h, Row.empty, rfl, rfl, by have := h.b1; omega⟩
theorem ExpI.pos {a b x y : Int} {L : List Value} {xs : List Int} {sp : List Value} {n c : Nat} (h : ExpI a b x y L xs sp n c) (hy : ¬ y = 0) : 0 < y := by have := h.ok.b0; omega
theorem ExpI.floor {a b x y : Int} {L : List Value} {xs : List Int} {sp : List Value} {n c : Nat} (h : ExpI a b x y L xs sp n c) (hy : ¬ y = 0) : floorF x y = x / y :=
  floorF_eq (h.pos hy) (by have := h.ok.lo; omega) (by have := h.ok.hi; omega)
theorem ExpI.rest {a b x y : Int} {L : List Value} {xs : List Int} {sp : List Value} {n c : Nat} (h : ExpI a b x y L xs sp n c) (hy : ¬ y = 0) : w64 (x - w64 (floorF x y * y)) = x % y := by
  rw [h.floor hy, w64_sub_r]
  have h1 := Int.emod_add_mul_ediv x y
  have h2 := Int.emod_lt_of_pos x (h.pos hy)
  have h3 := Int.emod_nonneg x hy
  have h4 := h.ok.b1
  have e : x - x / y * y = x % y := by rw [Int.mul_comm]; omega
  rw [e, w64_in (by omega) (by omega)]
theorem ExpI.next {a b x y : Int} {L : List Value} {xs : List Int} {sp sp' : List Value} {n c c' : Nat} (h : ExpI a b x y L xs sp n c) (hy : ¬ y = 0) (hr : Row (L ++ [iv (floorF x y)]) sp' (n + 1) c' 1) :
    ExpI a b y (w64 (x - w64 (floorF x y * y))) (L ++ [iv (floorF x y)]) (xs ++ [floorF x y]) sp' (n + 1) c' := by
  have h1 := Int.emod_lt_of_pos x (h.pos hy)
  have h2 := Int.emod_nonneg x hy
  have h3 := h.ok
  have h4 := h.bd
  rw [h.rest hy]
  refine ⟨⟨by have := h3.b0; omega, h3.b1, h2, by have := h3.b1; omega⟩, hr, by rw [il_snoc, h.il], ?_, by omega⟩
  rw [← h.eq, h.floor hy, List.append_assoc, expL_step (h.pos hy)]
  rfl
theorem ExpI.mu {a b x y : Int} {L : List Value} {xs : List Int} {sp : List Value} {n c : Nat} (h : ExpI a b x y L xs sp n c) (hy : ¬ y = 0) : (w64 (x - w64 (floorF x y * y))).toNat < y.toNat := by
  have h1 := Int.emod_lt_of_pos x (h.pos hy)
  have h2 := Int.emod_nonneg x hy
  rw [h.rest hy]; omega
theorem ExpI.fin {a b x y : Int} {L : List Value} {xs : List Int} {sp : List Value} {n c : Nat} (h : ExpI a b x y L xs sp n c) (hy : y = 0) : L = Ev.il (expL a b) ∧ Row (Ev.il (expL a b)) sp n c 1 ∧ n ≤ 1000000 := by
  subst hy
  have h1 := h.eq
  rw [expL_zero (by omega), List.append_nil] at h1
  have h2 : L = Ev.il (expL a b) := by rw [h.il, h1]
  exact ⟨h2, h2 ▸ h.row, by have := h.bd; omega⟩

end Go.Ev
end

section
/-
  Convergents: continuants from either end, and their bounds.
  Conditions: none.
-/
set_option linter.unusedVariables false
set_option linter.unusedSimpArgs false
namespace Go.Ev
open Go.RowKit

def contL : List Int → Int × Int
  | [] => (1, 0)
  | a :: l => (a * (contL l).1 + (contL l).2, (contL l).1)

/-- The state of the recurrence from the front: now and before. -/
def fwdS (l : List Int) (s : (Int × Int) × (Int × Int)) : (Int × Int) × (Int × Int) := l.foldl (fun s a => ((s.2.1 + a * s.1.1, s.2.2 + a * s.1.2), s.1)) s
def fwd (l : List Int) : (Int × Int) × (Int × Int) := fwdS l ((1, 0), (0, 1))

theorem fwdS_now : ∀ (l : List Int) (x y u v : Int), (fwdS l ((x, y), (u, v))).1 = ((contL l).1 * x + (contL l).2 * u, (contL l).1 * y + (contL l).2 * v)
  | [], x, y, u, v => by simp [fwdS, contL]
  | a :: l, x, y, u, v => by
    have := fwdS_now l (u + a * x) (v + a * y) x y
    unfold fwdS at this ⊢
    rw [List.foldl_cons, this]
    simp only [contL]
    refine Prod.ext ?_ ?_ <;> (simp only; grind)
theorem fwd_now (l : List Int) : (fwd l).1 = contL l := by
  unfold fwd
  rw [fwdS_now]
  simp
theorem fwd_snoc (l : List Int) (a : Int) : fwd (l ++ [a]) = (((fwd l).2.1 + a * (fwd l).1.1, (fwd l).2.2 + a * (fwd l).1.2), (fwd l).1) := by
  unfold fwd fwdS
  rw [List.foldl_append]
  rfl

structure CB (p q N D : Int) : Prop where
  n0 : 0 ≤ N
  d0 : 0 ≤ D
  dq : D ≤ q
  np : N ≤ p ∨ N ≤ 1
  dn : p ≥ q → D ≤ N
  df : p > q → N - D ≤ p - q

theorem cb : ∀ (k : Nat) (p q : Int) (m : Nat), q.toNat ≤ k → 0 ≤ p → 0 ≤ q → CB p q (contL ((expL p q).take m)).1 (contL ((expL p q).take m)).2 := by
  intro k
  induction k with
  | zero =>
    intro p q m hk hp hq
    rw [expL_zero (by omega)]
    simp only [List.take_nil, contL]
    exact ⟨by omega, by omega, by omega, .inr (by omega), fun _ => by omega, fun _ => by omega⟩
  | succ k ih =>
    intro p q m hk hp hq
    by_cases h0 : 0 < q
    · cases m with
      | zero =>
        simp only [List.take_zero, contL]
        exact ⟨by omega, by omega, by omega, .inr (by omega), fun _ => by omega, fun _ => by omega⟩
      | succ m =>
        rw [expL_step h0, List.take_succ_cons]
        have h1 := Int.emod_lt_of_pos p h0
        have h2 := Int.emod_nonneg p (show q ≠ 0 by omega)
        have h3 := Int.emod_add_mul_ediv p q
        have h4 : 0 ≤ p / q := Int.ediv_nonneg hp hq
        have h := ih q (p % q) m (by omega) hq h2
        simp only [contL]
        generalize (contL ((expL q (p % q)).take m)).1 = N at *
        generalize (contL ((expL q (p % q)).take m)).2 = D at *
        generalize p % q = r at *
        generalize p / q = a at *
        have hn := h.n0; have hd := h.d0; have hdq := h.dq; have hnp := h.np; have hdn := h.dn (by omega); have hdf := h.df (by omega)
        have hnq : N ≤ q := by omega
        have e1 : a * N ≤ a * q := Int.mul_le_mul_of_nonneg_left hnq h4
        have e2 : 0 ≤ a * N := Int.mul_nonneg h4 hn
        have e3 : a * q = q * a := Int.mul_comm a q
        refine ⟨by omega, by omega, by omega, .inl (by omega), fun hpq => ?_, fun hpq => ?_⟩
        · have ha : 1 ≤ a := by
            rcases (by omega : a < 1 ∨ 1 ≤ a) with h5 | h5
            · have : a = 0 := by omega
              subst this
              omega
            · exact h5
          have : 1 * N ≤ a * N := Int.mul_le_mul_of_nonneg_right ha hn
          omega
        · have ha : 1 ≤ a := by
            rcases (by omega : a < 1 ∨ 1 ≤ a) with h5 | h5
            · have : a = 0 := by omega
              subst this
              omega
            · exact h5
          have e4 : (a - 1) * N ≤ (a - 1) * q := Int.mul_le_mul_of_nonneg_left hnq (by omega)
          rw [Int.sub_mul, Int.sub_mul] at e4
          omega
    · rw [expL_zero h0]
      simp only [List.take_nil, contL]
      exact ⟨by omega, by omega, by omega, .inr (by omega), fun _ => by omega, fun _ => by omega⟩

def fitsP (c : Int × Int) : Prop := -1000000 ≤ c.1 ∧ c.1 ≤ 1000000 ∧ -1000000 ≤ c.2 ∧ c.2 ≤ 1000000

theorem fits0 {p q : Int} (hp : 0 ≤ p) (hp2 : p ≤ 1000000) (hq : 0 ≤ q) (hq2 : q ≤ 1000000) (m : Nat) : fitsP (contL ((expL p q).take m)) := by
  have h := cb q.toNat p q m (Nat.le_refl _) hp hq
  have h1 := h.n0; have h2 := h.d0; have h3 := h.dq; have h4 := h.np
  exact ⟨by omega, by omega, by omega, by omega⟩
theorem fits1 : ∀ (j : Nat) {p q : Int} (hp : 0 ≤ p) (hp2 : p ≤ 1000000) (hq : 0 ≤ q) (hq2 : q ≤ 1000000) (m : Nat), fitsP (contL (((expL p q).take m).drop j))
  | 0, p, q, hp, hp2, hq, hq2, m => by simpa using fits0 hp hp2 hq hq2 m
  | j + 1, p, q, hp, hp2, hq, hq2, m => by
    by_cases h0 : 0 < q
    · cases m with
      | zero => simp [contL, fitsP]
      | succ m =>
        have h1 := Int.emod_lt_of_pos p h0
        have h2 := Int.emod_nonneg p (show q ≠ 0 by omega)
        rw [expL_step h0, List.take_succ_cons, List.drop_succ_cons]
        exact fits1 j hq hq2 h2 (by omega) m
    · rw [expL_zero h0]
      simp [contL, fitsP]
/-- All continuants that the spec's fold reckons are coordinates. -/
theorem fits {p q : Int} (h : ExpOk p q) (j m : Nat) : fitsP (contL (((expL p q).take m).drop j)) := by
  have hlo := h.lo; have hhi := h.hi; have hb0 := h.b0; have hb1 := h.b1
  by_cases h0 : 0 < q
  · cases m with
    | zero => simp [contL, fitsP]
    | succ m =>
      have h1 := Int.emod_lt_of_pos p h0
      have h2 := Int.emod_nonneg p (show q ≠ 0 by omega)
      rw [expL_step h0, List.take_succ_cons]
      cases j with
      | succ j => rw [List.drop_succ_cons]; exact fits1 j (by omega) hb1 h2 (by omega) m
      | zero =>
        rw [List.drop_zero]
        have h3 := Int.emod_add_mul_ediv p q
        have h := cb (p % q).toNat q (p % q) m (Nat.le_refl _) (by omega) h2
        simp only [contL]
        generalize (contL ((expL q (p % q)).take m)).1 = N at *
        generalize (contL ((expL q (p % q)).take m)).2 = D at *
        generalize p % q = r at *
        generalize p / q = a at *
        have hn := h.n0; have hd := h.d0; have hdq := h.dq; have hnp := h.np; have hdn := h.dn (by omega); have hdf := h.df (by omega)
        have hnq : N ≤ q := by omega
        have e3 : a * q = q * a := Int.mul_comm a q
        unfold fitsP
        simp only
        rcases (by omega : a < 0 ∨ 0 ≤ a) with ha | ha
        · have e1 : (-1 - a) * N ≤ (-1 - a) * q := Int.mul_le_mul_of_nonneg_left hnq (by omega)
          have e2 : 0 ≤ (-a) * N := Int.mul_nonneg (by omega) hn
          rw [Int.sub_mul, Int.sub_mul] at e1
          rw [Int.neg_mul] at e2
          refine ⟨by omega, by omega, by omega, by omega⟩
        · have e1 : a * N ≤ a * q := Int.mul_le_mul_of_nonneg_left hnq ha
          have e2 : 0 ≤ a * N := Int.mul_nonneg ha hn
          refine ⟨by omega, by omega, by omega, by omega⟩
  · rw [expL_zero h0]
    simp [contL, fitsP]

/-- All convergents. -/
def convs (l : List Int) : List (Int × Int) := (List.range l.length).map fun k => contL (l.take (k + 1))
theorem convs_len (l : List Int) : (convs l).length = l.length := by simp [convs]

theorem plusF_eq {a k c : Int} (h1 : -9223372036854775808 ≤ a + k * c) (h2 : a + k * c ≤ 9223372036854775807) : plusF a k c = a + k * c := by
  unfold plusF
  rw [w64_add_r, w64_in h1 h2]

theorem take_succ_getD {α : Type} {l : List α} {i : Nat} {d : α} (h : i < l.length) : l.take (i + 1) = l.take i ++ [l.getD i d] := by
  rw [List.take_add_one]
  simp [List.getD, h]

/-- The state of the loop that makes the convergents of the list l. -/
structure ConvI (l : List Int) (i x y u v : Int) (L sp : List Value) (n c : Nat) : Prop where
  lo : 0 ≤ i
  hi : i ≤ (l.length : Int)
  num : n = i.toNat
  row : Row L sp n c 2
  lst : L = pl ((convs l).take i.toNat)
  st : fwd (l.take i.toNat) = ((x, y), (u, v))
theorem ConvI.start (l : List Int) : ConvI l 0 1 0 0 1 [] [] 0 0 := ⟨by omega, by omega, rfl, Row.empty, rfl, rfl⟩
theorem ConvI.now {l : List Int} {i x y u v : Int} {L sp : List Value} {n c : Nat} (h : ConvI l i x y u v L sp n c) (hi : i < (l.length : Int)) (hf : ∀ m, fitsP (contL (l.take m))) :
    plusF u (l.getD i.toNat 0) x = (contL (l.take (i.toNat + 1))).1 ∧ plusF v (l.getD i.toNat 0) y = (contL (l.take (i.toNat + 1))).2 ∧ fwd (l.take (i.toNat + 1)) = (contL (l.take (i.toNat + 1)), (x, y)) := by
  have h1 := h.lo
  have hl : i.toNat < l.length := by omega
  have e1 : fwd (l.take (i.toNat + 1)) = ((u + l.getD i.toNat 0 * x, v + l.getD i.toNat 0 * y), (x, y)) := by
    rw [take_succ_getD (d := 0) hl, fwd_snoc, h.st]
  have e2 := fwd_now (l.take (i.toNat + 1))
  rw [e1] at e2
  simp only at e2
  obtain ⟨f1, f2, f3, f4⟩ := hf (i.toNat + 1)
  rw [← e2] at f1 f2 f3 f4 ⊢
  simp only at f1 f2 f3 f4 ⊢
  exact ⟨plusF_eq (by omega) (by omega), plusF_eq (by omega) (by omega), e1⟩
theorem ConvI.next {l : List Int} {i x y u v : Int} {L sp sp' : List Value} {n c c' : Nat} (h : ConvI l i x y u v L sp n c) (hi : i < (l.length : Int)) (hl : l.length ≤ 1000001) (hf : ∀ m, fitsP (contL (l.take m)))
    (hr : Row (L ++ [iv (plusF u (l.getD i.toNat 0) x), iv (plusF v (l.getD i.toNat 0) y)]) sp' (n + 1) c' 2) :
    ConvI l (w64 (i + 1)) (plusF u (l.getD i.toNat 0) x) (plusF v (l.getD i.toNat 0) y) x y (L ++ [iv (plusF u (l.getD i.toNat 0) x), iv (plusF v (l.getD i.toNat 0) y)]) sp' (n + 1) c' := by
  have h1 := h.lo
  obtain ⟨e1, e2, e3⟩ := h.now hi hf
  rw [w64_in (by omega) (by omega)]
  have e4 : (i + 1).toNat = i.toNat + 1 := by omega
  refine ⟨by omega, by omega, by rw [h.num, e4], hr, ?_, ?_⟩
  · rw [e1, e2, e4, h.lst, take_succ_getD (d := (0, 0)) (by rw [convs_len]; omega), pl_snoc]
    have : (convs l).getD i.toNat (0, 0) = contL (l.take (i.toNat + 1)) := by
      have : i.toNat < l.length := by omega
      simp [convs, List.getD, this]
    rw [this]
  · rw [e1, e2, e4, e3]
theorem ConvI.fin {l : List Int} {i x y u v : Int} {L sp : List Value} {n c : Nat} (h : ConvI l i x y u v L sp n c) (hi : ¬ i < (l.length : Int)) : L = pl (convs l) ∧ Row (pl (convs l)) sp n c 2 ∧ n = l.length := by
  have h1 := h.lo; have h2 := h.hi; have h3 := h.num
  have e : i.toNat = l.length := by omega
  have h4 := h.lst
  rw [e, List.take_of_length_le (by rw [convs_len]; omega)] at h4
  exact ⟨h4, h4 ▸ h.row, by omega⟩

/-- The state of the spec's fold of the first m numbers: those from i + 1 on are reckoned. -/
structure FoldI (xs : List Int) (m : Nat) (p q i : Int) : Prop where
  lo : -1 ≤ i
  hi : i < (m : Int) - 1 + 1
  st : contL ((xs.take m).drop (i + 1).toNat) = (p, q)
theorem FoldI.start {xs : List Int} {m : Nat} (h : 0 < m) (hm : m ≤ xs.length) (hx : xs.length ≤ 1000001) : FoldI xs m (xs.getD (w64 ((m : Int) - 1)).toNat 0) 1 (w64 ((m : Int) - 2)) := by
  rw [w64_in (by omega) (by omega), w64_in (by omega) (by omega)]
  refine ⟨by omega, by omega, ?_⟩
  have e1 : ((m : Int) - 2 + 1).toNat = m - 1 := by omega
  have e2 : ((m : Int) - 1).toNat = m - 1 := by omega
  rw [e1, e2]
  have hl : m - 1 < (xs.take m).length := by rw [List.length_take]; omega
  rw [List.drop_eq_getElem_cons hl, List.drop_of_length_le (by rw [List.length_take]; omega)]
  have : m - 1 < xs.length := by omega
  simp [contL, List.getD, this]
theorem FoldI.val {xs : List Int} {m : Nat} {p q i : Int} (h : FoldI xs m p q i) (hi : i ≥ 0) (hm : m ≤ xs.length) : contL ((xs.take m).drop i.toNat) = (xs.getD i.toNat 0 * p + q, p) := by
  have h1 := h.hi
  have hl : i.toNat < (xs.take m).length := by rw [List.length_take]; omega
  rw [List.drop_eq_getElem_cons hl]
  have e1 : (i + 1).toNat = i.toNat + 1 := by omega
  have h2 := h.st
  rw [e1] at h2
  simp only [contL, h2]
  have : i.toNat < xs.length := by omega
  simp [List.getD, this]
theorem FoldI.wrap {xs : List Int} {m : Nat} {p q i : Int} (h : FoldI xs m p q i) (hi : i ≥ 0) (hm : m ≤ xs.length) (hf : ∀ j, fitsP (contL ((xs.take m).drop j))) :
    w64 (w64 (xs.getD i.toNat 0 * p) + q) = xs.getD i.toNat 0 * p + q ∧ isCoordF (w64 (w64 (xs.getD i.toNat 0 * p) + q)) = true ∧ isCoordF p = true := by
  have h1 := hf i.toNat
  rw [h.val hi hm] at h1
  obtain ⟨f1, f2, f3, f4⟩ := h1
  simp only at f1 f2 f3 f4
  generalize xs.getD i.toNat 0 = g at *
  have e : w64 (w64 (g * p) + q) = g * p + q := by rw [w64_add_l, w64_in (by omega) (by omega)]
  refine ⟨e, ?_, ?_⟩
  · rw [e]; simp [isCoordF, inF]; omega
  · simp [isCoordF, inF]; omega
theorem FoldI.next {xs : List Int} {m : Nat} {p q i : Int} (h : FoldI xs m p q i) (hi : i ≥ 0) (hm : m ≤ xs.length) (hx : xs.length ≤ 1000001) (hf : ∀ j, fitsP (contL ((xs.take m).drop j))) :
    FoldI xs m (w64 (w64 (xs.getD i.toNat 0 * p) + q)) p (w64 (i - 1)) := by
  have h1 := h.hi
  rw [(h.wrap hi hm hf).1, w64_in (n := i - 1) (by omega) (by omega)]
  refine ⟨by omega, by omega, ?_⟩
  rw [show i - 1 + 1 = i by omega]
  exact h.val hi hm
theorem FoldI.mu {xs : List Int} {m : Nat} {p q i : Int} (h : FoldI xs m p q i) (hi : i ≥ 0) (hm : m ≤ xs.length) (hx : xs.length ≤ 1000001) : (w64 (i - 1) + 1).toNat < (i + 1).toNat := by
  have h1 := h.hi
  rw [w64_in (n := i - 1) (by omega) (by omega)]; omega
theorem FoldI.fin {xs : List Int} {m : Nat} {p q i : Int} (h : FoldI xs m p q i) (hi : ¬ i ≥ 0) : p = (contL (xs.take m)).1 ∧ q = (contL (xs.take m)).2 := by
  have h1 := h.lo; have h2 := h.st
  have : (i + 1).toNat = 0 := by omega
  rw [this, List.drop_zero] at h2
  rw [h2]
  exact ⟨rfl, rfl⟩

/-- The state of the spec's loop over the beginnings of the list l. -/
structure BegI (l : List Int) (i : Int) (L sp : List Value) (n c : Nat) : Prop where
  lo : 1 ≤ i
  hi : i ≤ (l.length : Int) + 1
  num : n = i.toNat - 1
  row : Row L sp n c 2
  lst : L = pl ((convs l).take (i.toNat - 1))
theorem BegI.start (l : List Int) : BegI l 1 [] [] 0 0 := ⟨by omega, by omega, rfl, Row.empty, rfl⟩
theorem BegI.next {l : List Int} {i : Int} {L sp sp' : List Value} {n c c' m : Nat} (h : BegI l i L sp n c) (hi : i ≤ (l.length : Int)) (hl : l.length ≤ 1000001) (hm : m = i.toNat)
    (hr : Row (L ++ [iv (contL (l.take m)).1, iv (contL (l.take m)).2]) sp' (n + 1) c' 2) :
    BegI l (w64 (i + 1)) (L ++ [iv (contL (l.take m)).1, iv (contL (l.take m)).2]) sp' (n + 1) c' := by
  subst hm
  have h1 := h.lo; have h2 := h.num
  rw [w64_in (by omega) (by omega)]
  have e4 : (i + 1).toNat - 1 = (i.toNat - 1) + 1 := by omega
  refine ⟨by omega, by omega, by omega, hr, ?_⟩
  rw [e4, h.lst, take_succ_getD (d := (0, 0)) (by rw [convs_len]; omega), pl_snoc]
  have : (convs l).getD (i.toNat - 1) (0, 0) = contL (l.take i.toNat) := by
    have h3 : i.toNat - 1 < l.length := by omega
    have h4 : i.toNat - 1 + 1 = i.toNat := by omega
    simp [convs, List.getD, h3, h4]
  rw [this]
theorem BegI.fin {l : List Int} {i : Int} {L sp : List Value} {n c : Nat} (h : BegI l i L sp n c) (hi : ¬ i ≤ (l.length : Int)) : L = pl (convs l) ∧ Row (pl (convs l)) sp n c 2 ∧ n = l.length := by
  have h1 := h.lo; have h2 := h.hi; have h3 := h.num
  have e : i.toNat - 1 = l.length := by omega
  have h4 := h.lst
  rw [e, List.take_of_length_le (by rw [convs_len]; omega)] at h4
  exact ⟨h4, h4 ▸ h.row, by omega⟩
theorem BegI.mu {l : List Int} {i : Int} {L sp : List Value} {n c : Nat} (h : BegI l i L sp n c) (hi : i ≤ (l.length : Int)) (hl : l.length ≤ 1000001) : ((l.length : Int) + 1 - w64 (i + 1)).toNat < ((l.length : Int) + 1 - i).toNat := by
  have h1 := h.lo
  rw [w64_in (by omega) (by omega)]; omega

end Go.Ev
end

section
/-
  Vertices of sails: the plain law.
  Conditions: none.
-/
set_option linter.unusedVariables false
set_option linter.unusedSimpArgs false
namespace Go.Ev
open Go.RowKit

theorem sailF_len {b0 b1 : Int} : ∀ (k : Nat) {u v x y : Int} {ps : List (Int × Int)} {cs : List Int}, sailF b0 b1 k u v x y = some (ps, cs) → ps.length = cs.length + 1
  | 0, u, v, x, y, ps, cs, h => by cases h
  | k + 1, u, v, x, y, ps, cs, h => by
    rw [sailF] at h
    split at h
    · cases h; rfl
    · cases hr : sailF b0 b1 k x y (turnL b0 b1 u v x y * x - u) (turnL b0 b1 u v x y * y - v) with
      | none => rw [hr] at h; cases h
      | some r =>
        obtain ⟨p, q⟩ := r
        rw [hr] at h
        simp only [Option.map_some, Option.some.injEq, Prod.mk.injEq] at h
        obtain ⟨rfl, rfl⟩ := h
        have := sailF_len k hr
        simp [this]
theorem sailT_len {a0 a1 b0 b1 t0 : Int} {P : List (Int × Int)} {T : List Int} (h : sailT a0 a1 b0 b1 t0 = some (P, T)) : P.length = T.length + 1 := by
  unfold sailT at h
  cases hr : sailR a0 a1 b0 b1 with
  | none => rw [hr] at h; cases h
  | some r =>
    obtain ⟨p, q⟩ := r
    rw [hr] at h
    simp only [Option.map_some, Option.some.injEq, Prod.mk.injEq] at h
    obtain ⟨rfl, rfl⟩ := h
    have := sailF_len _ hr
    simp [this]

/-- Is place i a vertex? -/
def vertP (t : List Int) (i : Nat) : Bool := decide (i = 0) || decide (i + 1 = t.length) || decide (t.getD i 0 > 2)
/-- The vertices among the first i places. -/
def vertTo (t : List Int) (i : Nat) : List Nat := (List.range i).filter (vertP t)
theorem vertTo_succ (t : List Int) (i : Nat) : vertTo t (i + 1) = vertTo t i ++ (if vertP t i then [i] else []) := by
  unfold vertTo
  rw [List.range_succ, List.filter_append]
  congr 1
  by_cases h : vertP t i <;> simp [h]
theorem vertTo_lt {t : List Int} {i k : Nat} (h : k ∈ vertTo t i) : k < i := by
  have := (List.mem_filter.1 h).1
  exact List.mem_range.1 this
theorem vertTo_len (t : List Int) (i : Nat) : (vertTo t i).length ≤ i := by
  have := List.length_filter_le (vertP t) (List.range i)
  rw [List.length_range] at this
  exact this

/-- The state of the loop that lists the vertices' places. -/
structure VertI (t : List Int) (i : Int) (L sp : List Value) (n c : Nat) : Prop where
  lo : 0 ≤ i
  hi : i ≤ (t.length : Int)
  row : Row L sp n c 1
  lst : L = il ((vertTo t i.toNat).map Int.ofNat)
  num : n ≤ i.toNat
theorem VertI.start (t : List Int) : VertI t 0 [] [] 0 0 := ⟨by omega, by omega, Row.empty, rfl, by omega⟩

theorem vert_iff {t : List Int} {i : Int} (h0 : 0 ≤ i) (hi : i < (t.length : Int)) (hl : t.length ≤ 2000) : vertP t i.toNat = true ↔ (i = 0 ∨ i = w64 ((t.length : Int) - 1) ∨ t.getD i.toNat 0 > 2) := by
  rw [w64_in (by omega) (by omega)]
  simp only [vertP, Bool.or_eq_true, decide_eq_true_eq]
  constructor
  · rintro ((h | h) | h)
    · exact .inl (by omega)
    · exact .inr (.inl (by omega))
    · exact .inr (.inr h)
  · rintro (h | h | h)
    · exact .inl (.inl (by omega))
    · exact .inl (.inr (by omega))
    · exact .inr h
theorem VertI.add {t : List Int} {i : Int} {L sp sp' : List Value} {n c c' : Nat} (h : VertI t i L sp n c) (hi : i < (t.length : Int)) (hl : t.length ≤ 2000) (hv : i = 0 ∨ i = w64 ((t.length : Int) - 1) ∨ t.getD i.toNat 0 > 2)
    (hr : Row (L ++ [iv i]) sp' (n + 1) c' 1) : VertI t (w64 (i + 1)) (L ++ [iv i]) sp' (n + 1) c' := by
  have h1 := h.lo
  have hp := (vert_iff h1 hi hl).2 hv
  rw [w64_in (by omega) (by omega)]
  have e : (i + 1).toNat = i.toNat + 1 := by omega
  refine ⟨by omega, by omega, hr, ?_, by have := h.num; omega⟩
  rw [e, vertTo_succ, if_pos hp, List.map_append, il_app, h.lst]
  have : Int.ofNat i.toNat = i := by simp; omega
  rw [List.map_cons, List.map_nil, this]
  rfl
theorem VertI.skip {t : List Int} {i : Int} {L sp : List Value} {n c : Nat} (h : VertI t i L sp n c) (hi : i < (t.length : Int)) (hl : t.length ≤ 2000) (hv : ¬ (i = 0 ∨ i = w64 ((t.length : Int) - 1) ∨ t.getD i.toNat 0 > 2)) :
    VertI t (w64 (i + 1)) L sp n c := by
  have h1 := h.lo
  have hp : ¬ vertP t i.toNat = true := fun hh => hv ((vert_iff h1 hi hl).1 hh)
  rw [w64_in (by omega) (by omega)]
  have e : (i + 1).toNat = i.toNat + 1 := by omega
  refine ⟨by omega, by omega, h.row, ?_, by have := h.num; omega⟩
  rw [e, vertTo_succ, if_neg hp, List.append_nil, h.lst]
theorem VertI.fin {t : List Int} {i : Int} {L sp : List Value} {n c : Nat} (h : VertI t i L sp n c) (hi : ¬ i < (t.length : Int)) : L = il ((vertTo t t.length).map Int.ofNat) ∧ n ≤ t.length := by
  have h1 := h.lo; have h2 := h.hi; have h3 := h.num
  have e : i.toNat = t.length := by omega
  exact ⟨by rw [h.lst, e], by omega⟩

/-- The state of a loop that picks points by a list of places. -/
structure PickI (P : List (Int × Int)) (W : List Nat) (m : Int) (L sp : List Value) (n c : Nat) : Prop where
  lo : 0 ≤ m
  hi : m ≤ (W.length : Int)
  row : Row L sp n c 2
  lst : L = pl ((W.take m.toNat).map fun i => P.getD i (0, 0))
  num : n ≤ m.toNat
theorem PickI.start (P : List (Int × Int)) (W : List Nat) : PickI P W 0 [] [] 0 0 := ⟨by omega, by omega, Row.empty, rfl, by omega⟩
theorem pick_at {W : List Nat} {m : Int} (h0 : 0 ≤ m) (hi : m < (W.length : Int)) : (W.map Int.ofNat).getD m.toNat 0 = (W.getD m.toNat 0 : Int) := by
  have : m.toNat < W.length := by omega
  simp [List.getD, this]
theorem pick_lt {W : List Nat} {m : Int} {N : Nat} (h0 : 0 ≤ m) (hi : m < (W.length : Int)) (hW : ∀ k ∈ W, k < N) : 0 ≤ (W.map Int.ofNat).getD m.toNat 0 ∧ (W.map Int.ofNat).getD m.toNat 0 < (N : Int) := by
  have hm : m.toNat < W.length := by omega
  rw [pick_at h0 hi]
  have : W.getD m.toNat 0 ∈ W := getD_mem hm
  have := hW _ this
  omega
theorem PickI.next {P : List (Int × Int)} {W : List Nat} {m : Int} {L sp sp' : List Value} {n c c' : Nat} (h : PickI P W m L sp n c) (hi : m < (W.length : Int)) (hl : W.length ≤ 100000)
    (hr : Row (L ++ [iv (P.getD ((W.map Int.ofNat).getD m.toNat 0).toNat (0, 0)).1, iv (P.getD ((W.map Int.ofNat).getD m.toNat 0).toNat (0, 0)).2]) sp' (n + 1) c' 2) :
    PickI P W (w64 (m + 1)) (L ++ [iv (P.getD ((W.map Int.ofNat).getD m.toNat 0).toNat (0, 0)).1, iv (P.getD ((W.map Int.ofNat).getD m.toNat 0).toNat (0, 0)).2]) sp' (n + 1) c' := by
  have h1 := h.lo
  rw [w64_in (by omega) (by omega)]
  have e : (m + 1).toNat = m.toNat + 1 := by omega
  refine ⟨by omega, by omega, hr, ?_, by have := h.num; omega⟩
  rw [e, take_succ_getD (d := 0) (by omega), List.map_append, List.map_cons, List.map_nil, pl_snoc, h.lst, pick_at h1 hi]
  rfl
theorem PickI.fin {P : List (Int × Int)} {W : List Nat} {m : Int} {L sp : List Value} {n c : Nat} (h : PickI P W m L sp n c) (hi : ¬ m < (W.length : Int)) : L = pl (W.map fun i => P.getD i (0, 0)) := by
  have h1 := h.hi
  rw [h.lst, List.take_of_length_le (by omega)]

/-- The state of the spec's loop that picks the vertices. -/
structure PtvI (P : List (Int × Int)) (t : List Int) (N : Nat) (i : Int) (L sp : List Value) (n c : Nat) : Prop where
  lo : 0 ≤ i
  hi : i ≤ (N : Int)
  row : Row L sp n c 2
  lst : L = pl ((vertTo t i.toNat).map fun k => P.getD k (0, 0))
  num : n ≤ i.toNat
theorem PtvI.start (P : List (Int × Int)) (t : List Int) (N : Nat) : PtvI P t N 0 [] [] 0 0 := ⟨by omega, by omega, Row.empty, rfl, by omega⟩
theorem PtvI.add {P : List (Int × Int)} {t : List Int} {N : Nat} {i : Int} {L sp sp' : List Value} {n c c' : Nat} (h : PtvI P t N i L sp n c) (hN : N = t.length) (hi : i < (N : Int)) (hl : N ≤ 2000) (hv : i = 0 ∨ i = w64 ((N : Int) - 1) ∨ t.getD i.toNat 0 > 2)
    (hr : Row (L ++ [iv (P.getD i.toNat (0, 0)).1, iv (P.getD i.toNat (0, 0)).2]) sp' (n + 1) c' 2) : PtvI P t N (w64 (i + 1)) (L ++ [iv (P.getD i.toNat (0, 0)).1, iv (P.getD i.toNat (0, 0)).2]) sp' (n + 1) c' := by
  subst hN
  have h1 := h.lo
  have hp := (vert_iff h1 hi hl).2 hv
  rw [w64_in (by omega) (by omega)]
  have e : (i + 1).toNat = i.toNat + 1 := by omega
  refine ⟨by omega, by omega, hr, ?_, by have := h.num; omega⟩
  rw [e, vertTo_succ, if_pos hp, List.map_append, List.map_cons, List.map_nil, pl_snoc, h.lst]
theorem PtvI.skip {P : List (Int × Int)} {t : List Int} {N : Nat} {i : Int} {L sp : List Value} {n c : Nat} (h : PtvI P t N i L sp n c) (hN : N = t.length) (hi : i < (N : Int)) (hl : N ≤ 2000) (hv : ¬ (i = 0 ∨ i = w64 ((N : Int) - 1) ∨ t.getD i.toNat 0 > 2)) :
    PtvI P t N (w64 (i + 1)) L sp n c := by
  subst hN
  have h1 := h.lo
  have hp : ¬ vertP t i.toNat = true := fun hh => hv ((vert_iff h1 hi hl).1 hh)
  rw [w64_in (by omega) (by omega)]
  have e : (i + 1).toNat = i.toNat + 1 := by omega
  refine ⟨by omega, by omega, h.row, ?_, by have := h.num; omega⟩
  rw [e, vertTo_succ, if_neg hp, List.append_nil, h.lst]
theorem PtvI.fin {P : List (Int × Int)} {t : List Int} {N : Nat} {i : Int} {L sp : List Value} {n c : Nat} (h : PtvI P t N i L sp n c) (hN : N = t.length) (hi : ¬ i < (N : Int)) : L = pl ((vertTo t t.length).map fun k => P.getD k (0, 0)) := by
  have h1 := h.lo; have h2 := h.hi
  rw [h.lst, show i.toNat = t.length by omega]

/-- The two lists of turns, told with different ends, have the same vertices. -/
theorem vertTo_ends (x y : Int) (cs : List Int) (i : Nat) (hi : i ≤ cs.length + 2) : vertTo (x :: cs ++ [x]) i = vertTo (y :: cs ++ [y]) i := by
  unfold vertTo
  apply List.filter_congr
  intro k hk
  have hk' : k < cs.length + 2 := by have := List.mem_range.1 hk; omega
  unfold vertP
  by_cases h0 : k = 0
  · simp [h0]
  · by_cases h1 : k + 1 = cs.length + 2
    · simp [h1]
    · have : (x :: cs ++ [x]).getD k 0 = (y :: cs ++ [y]).getD k 0 := by
        obtain ⟨j, rfl⟩ : ∃ j, k = j + 1 := ⟨k - 1, by omega⟩
        have hj : j < cs.length := by omega
        simp [List.getD, List.getElem?_append_left, hj]
      rw [this]
      simp

end Go.Ev
end

section
/-
  Sequences of sails, their lengths and sines: the plain law.
  Conditions: none.
-/
set_option linter.unusedVariables false
set_option linter.unusedSimpArgs false
namespace Go.Ev
open Go.RowKit

/-- A list told by its places. -/
def tab (n : Nat) (f : Nat → Int) : List Int := (List.range n).map f
theorem tab_zero (f : Nat → Int) : tab 0 f = [] := rfl
theorem tab_succ (n : Nat) (f : Nat → Int) : tab (n + 1) f = tab n f ++ [f n] := by simp [tab, List.range_succ]
theorem tab_len (n : Nat) (f : Nat → Int) : (tab n f).length = n := by simp [tab]
theorem tab_at {n i : Nat} {f : Nat → Int} (h : i < n) : (tab n f).getD i 0 = f i := by simp [tab, List.getD, h]
theorem tab_congr {n : Nat} {f g : Nat → Int} (h : ∀ i, i < n → f i = g i) : tab n f = tab n g := by
  unfold tab
  exact List.map_congr_left fun i hi => h i (List.mem_range.1 hi)

/-- The length behind the j-th vertex, and the sine at the one behind it. -/
def lenE (W : List Nat) (j : Nat) : Int := (W.getD (j + 1) 0 : Int) - (W.getD j 0 : Int)
def sinE (t : List Int) (W : List Nat) (j : Nat) : Int := w64 (t.getD (W.getD (j + 1) 0) 0 - 2)
def seqE (t : List Int) (W : List Nat) (i : Nat) : Int := if i % 2 = 0 then lenE W (i / 2) else sinE t W (i / 2)
theorem seqE_even (t : List Int) (W : List Nat) (j : Nat) : seqE t W (2 * j) = lenE W j := by
  unfold seqE; rw [if_pos (by omega)]; congr 1; omega
theorem seqE_odd (t : List Int) (W : List Nat) (j : Nat) : seqE t W (2 * j + 1) = sinE t W j := by
  unfold seqE; rw [if_neg (by omega)]; congr 1; omega
def seqL (t : List Int) (W : List Nat) : List Int := tab (2 * W.length - 3) (seqE t W)
def lenL (t : List Int) (W : List Nat) : List Int := tab (W.length - 1) (lenE W)
def sinL (t : List Int) (W : List Nat) : List Int := tab (W.length - 2) (sinE t W)

/-! ### The loop of 'sequence' -/

theorem nat_at {W : List Nat} {m : Nat} (hi : m < W.length) : (W.map Int.ofNat).getD m 0 = (W.getD m 0 : Int) := by
  simp [List.getD, hi]

structure SeqI (t : List Int) (W : List Nat) (k : Int) (L sp : List Value) (n c : Nat) : Prop where
  lo : 1 ≤ k
  hi : k ≤ (W.length : Int)
  row : Row L sp n c 1
  lst : L = il (tab (2 * k.toNat - 3) (seqE t W))
  num : n ≤ 2 * k.toNat
theorem SeqI.start (t : List Int) {W : List Nat} (h : 1 ≤ W.length) : SeqI t W 1 [] [] 0 0 := ⟨by omega, by omega, Row.empty, rfl, by omega⟩
section
variable {t : List Int} {W : List Nat} {k : Int} {L sp sp' : List Value} {n c c' : Nat}
theorem len_val (h1 : 1 ≤ k) (h2 : k < (W.length : Int)) (h3 : W.length ≤ 2000) (h4 : ∀ x ∈ W, x < 2000) :
    w64 ((W.map Int.ofNat).getD k.toNat 0 - (W.map Int.ofNat).getD (w64 (k - 1)).toNat 0) = lenE W (k.toNat - 1) := by
  rw [w64_in (n := k - 1) (by omega) (by omega), nat_at (by omega), nat_at (by omega)]
  have e : (k - 1).toNat = k.toNat - 1 := by omega
  rw [e]
  unfold lenE
  rw [show k.toNat - 1 + 1 = k.toNat by omega]
  have h5 := h4 _ (getD_mem (d := 0) (show k.toNat < W.length by omega))
  have h6 := h4 _ (getD_mem (d := 0) (show k.toNat - 1 < W.length by omega))
  rw [w64_in (by omega) (by omega)]
theorem pre_lt {N : Nat} (h1 : 1 ≤ k) (h2 : k < (W.length : Int)) (h3 : W.length ≤ 2000) (hW : ∀ x ∈ W, x < N) :
    0 ≤ (W.map Int.ofNat).getD (w64 (k - 1)).toNat 0 ∧ (W.map Int.ofNat).getD (w64 (k - 1)).toNat 0 < (N : Int) ∧ 0 ≤ w64 (k - 1) ∧ w64 (k - 1) < (W.length : Int) := by
  rw [w64_in (n := k - 1) (by omega) (by omega), nat_at (by omega)]
  have := hW _ (getD_mem (d := 0) (show (k - 1).toNat < W.length by omega))
  omega
theorem SeqI.first (h : SeqI t W k L sp n c) (hk : k < (W.length : Int)) (hl : W.length ≤ 2000) (h4 : ∀ x ∈ W, x < 2000) (h1 : ¬ k > 1) {v : Int} (hv : v = w64 ((W.map Int.ofNat).getD k.toNat 0 - (W.map Int.ofNat).getD (w64 (k - 1)).toNat 0))
    (hr : Row (L ++ [iv v]) sp' (n + 1) c' 1) : SeqI t W (w64 (k + 1)) (L ++ [iv v]) sp' (n + 1) c' := by
  have h0 := h.lo
  have hk1 : k = 1 := by omega
  subst hk1
  rw [len_val (by omega) hk hl h4] at hv
  subst hv
  rw [w64_in (by omega) (by omega)]
  refine ⟨by omega, by omega, hr, ?_, by have := h.num; omega⟩
  rw [h.lst]
  show _ = il (tab (0 + 1) (seqE t W))
  rw [tab_succ, il_snoc]
  rfl
theorem SeqI.next (h : SeqI t W k L sp n c) (hk : k < (W.length : Int)) (hl : W.length ≤ 2000) (h4 : ∀ x ∈ W, x < 2000) (h1 : k > 1) {u v : Int} (hu : u = w64 (t.getD ((W.map Int.ofNat).getD (w64 (k - 1)).toNat 0).toNat 0 - 2))
    (hv : v = w64 ((W.map Int.ofNat).getD k.toNat 0 - (W.map Int.ofNat).getD (w64 (k - 1)).toNat 0))
    (hr : Row (L ++ [iv u] ++ [iv v]) sp' (n + 1 + 1) c' 1) : SeqI t W (w64 (k + 1)) (L ++ [iv u] ++ [iv v]) sp' (n + 1 + 1) c' := by
  have h0 := h.lo
  rw [len_val (by omega) hk hl h4] at hv
  rw [w64_in (n := k - 1) (by omega) (by omega), nat_at (by omega)] at hu
  subst hv hu
  rw [w64_in (by omega) (by omega)]
  refine ⟨by omega, by omega, hr, ?_, by have := h.num; omega⟩
  obtain ⟨j, rfl⟩ : ∃ j : Nat, k = (j : Int) + 2 := ⟨(k - 2).toNat, by omega⟩
  rw [h.lst, show 2 * ((j : Int) + 2 + 1).toNat - 3 = 2 * j + 1 + 1 + 1 by omega, show 2 * ((j : Int) + 2).toNat - 3 = 2 * j + 1 by omega,
    tab_succ (2 * j + 1 + 1), il_snoc, tab_succ (2 * j + 1), il_snoc, seqE_odd, show 2 * j + 1 + 1 = 2 * (j + 1) by omega, seqE_even,
    show ((j : Int) + 2).toNat - 1 = j + 1 by omega, show ((j : Int) + 2 - 1).toNat = j + 1 by omega]
  rfl
theorem SeqI.fin (h : SeqI t W k L sp n c) (hk : ¬ k < (W.length : Int)) : L = il (seqL t W) := by
  have h2 := h.hi; have h3 := h.lo
  rw [h.lst, show k.toNat = W.length by omega]
  rfl
end

/-! ### Every second number -/

/-- How many numbers are at every second place of n, from the place f on. -/
def evN (n f : Nat) : Nat := (n + 1 - f) / 2
def evL (xs : List Int) (f : Nat) : List Int := tab (evN xs.length f) fun j => xs.getD (f + 2 * j) 0
structure EvI (xs : List Int) (f : Nat) (i : Int) (L sp : List Value) (n c : Nat) (j : Nat) : Prop where
  at_ : i = (f : Int) + 2 * j
  hi : i ≤ (xs.length : Int) + 1
  row : Row L sp n c 1
  lst : L = il (tab j fun j => xs.getD (f + 2 * j) 0)
  num : n = j
theorem EvI.start (xs : List Int) (f : Nat) (hf : f ≤ 1) : EvI xs f (f : Int) [] [] 0 0 0 := ⟨by omega, by omega, Row.empty, rfl, rfl⟩
section
variable {xs : List Int} {f : Nat} {i : Int} {L sp sp' : List Value} {n c c' j : Nat}
theorem EvI.lo (h : EvI xs f i L sp n c j) : 0 ≤ i := by have := h.at_; omega
theorem EvI.next (h : EvI xs f i L sp n c j) (hi : i < (xs.length : Int)) (hl : xs.length ≤ 2000000) (hr : Row (L ++ [iv (xs.getD i.toNat 0)]) sp' (n + 1) c' 1) :
    EvI xs f (w64 (i + 2)) (L ++ [iv (xs.getD i.toNat 0)]) sp' (n + 1) c' (j + 1) := by
  have h1 := h.at_
  rw [w64_in (by omega) (by omega)]
  refine ⟨by omega, by omega, hr, ?_, by rw [h.num]⟩
  rw [tab_succ, il_snoc, h.lst, show i.toNat = f + 2 * j by omega]
theorem EvI.mu (h : EvI xs f i L sp n c j) (hi : i < (xs.length : Int)) (hl : xs.length ≤ 2000000) : ((xs.length : Int) + 1 - w64 (i + 2)).toNat < ((xs.length : Int) + 1 - i).toNat := by
  have h1 := h.at_
  rw [w64_in (by omega) (by omega)]
  omega
theorem EvI.fin (h : EvI xs f i L sp n c j) (hi : ¬ i < (xs.length : Int)) : L = il (evL xs f) ∧ 2 * n ≤ xs.length + 1 := by
  have h1 := h.at_; have h2 := h.hi; have h3 := h.num
  have e : evN xs.length f = j := by unfold evN; omega
  exact ⟨by rw [h.lst, evL, e], by omega⟩
end
theorem evL_seq0 (t : List Int) {W : List Nat} (h : 2 ≤ W.length) : evL (seqL t W) 0 = lenL t W := by
  unfold evL lenL
  have e : evN (seqL t W).length 0 = W.length - 1 := by unfold evN seqL; rw [tab_len]; omega
  rw [e]
  refine tab_congr fun i hi => ?_
  unfold seqL
  rw [Nat.zero_add, tab_at (by omega), seqE_even]
theorem evL_seq1 (t : List Int) {W : List Nat} (h : 2 ≤ W.length) : evL (seqL t W) 1 = sinL t W := by
  unfold evL sinL
  have e : evN (seqL t W).length 1 = W.length - 2 := by unfold evN seqL; rw [tab_len]; omega
  rw [e]
  refine tab_congr fun i hi => ?_
  unfold seqL
  rw [Nat.add_comm 1, tab_at (by omega), seqE_odd]

/-! ### The vertices of a list with its ends -/

theorem vert_form (x : Int) (cs : List Int) : ∃ M : List Nat, vertTo (x :: cs ++ [x]) (x :: cs ++ [x]).length = 0 :: M ++ [cs.length + 1] ∧ ∀ k ∈ M, 1 ≤ k ∧ k ≤ cs.length := by
  have hlen : (x :: cs ++ [x]).length = cs.length + 2 := by simp
  refine ⟨((List.range cs.length).map (· + 1)).filter (vertP (x :: cs ++ [x])), ?_, ?_⟩
  · unfold vertTo
    rw [hlen, List.range_succ, List.filter_append, List.range_succ_eq_map, List.filter_cons]
    have h0 : vertP (x :: cs ++ [x]) 0 = true := by simp [vertP]
    have h1 : vertP (x :: cs ++ [x]) (cs.length + 1) = true := by simp [vertP]
    rw [if_pos h0]
    congr 1
    rw [show List.filter (vertP (x :: cs ++ [x])) [cs.length + 1] = [cs.length + 1] by rw [List.filter_cons, if_pos h1]; rfl]
  · intro k hk
    have := (List.mem_filter.1 hk).1
    obtain ⟨j, hj, rfl⟩ := List.mem_map.1 this
    have := List.mem_range.1 hj
    omega
theorem vert_two (x : Int) (cs : List Int) : 2 ≤ (vertTo (x :: cs ++ [x]) (x :: cs ++ [x]).length).length := by
  obtain ⟨M, h, _⟩ := vert_form x cs
  rw [h]; simp
theorem inner_at {x : Int} {cs : List Int} {k : Nat} (h1 : 1 ≤ k) (h2 : k ≤ cs.length) : (x :: cs ++ [x]).getD k 0 = cs.getD (k - 1) 0 := by
  obtain ⟨j, rfl⟩ : ∃ j, k = j + 1 := ⟨k - 1, by omega⟩
  have hj : j < cs.length := by omega
  simp [List.getD, List.getElem?_append_left, hj]
theorem sinE_ends (x y : Int) (cs : List Int) {M : List Nat} (hM : ∀ k ∈ M, 1 ≤ k ∧ k ≤ cs.length) {j : Nat} (hj : j < M.length) : sinE (x :: cs ++ [x]) (0 :: M ++ [cs.length + 1]) j = sinE (y :: cs ++ [y]) (0 :: M ++ [cs.length + 1]) j := by
  unfold sinE
  have e : (0 :: M ++ [cs.length + 1]).getD (j + 1) 0 = M.getD j 0 := by simp [List.getD, List.getElem?_append_left, hj]
  have := hM _ (getD_mem (d := 0) hj)
  rw [e, inner_at this.1 this.2, inner_at this.1 this.2]
def vts (t : List Int) : List Nat := vertTo t t.length
theorem vts_ends (x y : Int) (cs : List Int) : vts (x :: cs ++ [x]) = vts (y :: cs ++ [y]) := by
  unfold vts
  rw [show (x :: cs ++ [x]).length = cs.length + 2 by simp, show (y :: cs ++ [y]).length = cs.length + 2 by simp, vertTo_ends x y cs _ (Nat.le_refl _)]
theorem sin_ends (x y : Int) (cs : List Int) : sinL (x :: cs ++ [x]) (vts (x :: cs ++ [x])) = sinL (y :: cs ++ [y]) (vts (y :: cs ++ [y])) := by
  rw [vts_ends x y]
  obtain ⟨M, h, hM⟩ := vert_form y cs
  unfold sinL vts
  rw [h]
  refine tab_congr fun i hi => sinE_ends x y cs hM (by simpa using hi)
theorem len_ends (x y : Int) (cs : List Int) : lenL (x :: cs ++ [x]) (vts (x :: cs ++ [x])) = lenL (y :: cs ++ [y]) (vts (y :: cs ++ [y])) := by
  rw [vts_ends x y]; rfl
theorem seq_ends (x y : Int) (cs : List Int) : seqL (x :: cs ++ [x]) (vts (x :: cs ++ [x])) = seqL (y :: cs ++ [y]) (vts (y :: cs ++ [y])) := by
  rw [vts_ends x y]
  obtain ⟨M, h, hM⟩ := vert_form y cs
  unfold seqL vts
  rw [h]
  refine tab_congr fun i hi => ?_
  unfold seqE
  split
  · rfl
  · exact sinE_ends x y cs hM (by simp at hi; omega)

theorem sailT_head {a b c d t0 : Int} {P : List (Int × Int)} {T : List Int} (h : sailT a b c d t0 = some (P, T)) : ∃ cs, T = t0 :: cs := by
  unfold sailT at h
  cases hr : sailR a b c d with
  | none => rw [hr] at h; cases h
  | some r =>
    rw [hr] at h
    simp only [Option.map_some, Option.some.injEq, Prod.mk.injEq] at h
    exact ⟨_, h.2.symm⟩
theorem vts_two {a b c d t0 : Int} {P : List (Int × Int)} {T : List Int} (h : sailT a b c d t0 = some (P, T)) : 2 ≤ (vts (T ++ [t0])).length := by
  obtain ⟨cs, rfl⟩ := sailT_head h
  exact vert_two t0 cs

/-! ### The loop of 'l03Parts' -/

structure PartI (t : List Int) (i : Int) (now : Int) (L sp : List Value) (n c : Nat) (M sq : List Value) (k d : Nat) : Prop where
  lo : 1 ≤ i
  hi : i ≤ (t.length : Int)
  row : Row L sp n c 1
  row2 : Row M sq k d 1
  lst : L = il (tab ((vertTo t i.toNat).length - 1) (lenE (vertTo t t.length)))
  lst2 : M = il (tab (if i < (t.length : Int) then (vertTo t i.toNat).length - 1 else (vertTo t t.length).length - 2) (sinE t (vertTo t t.length)))
  now : i < (t.length : Int) → now = i - 1 - ((vertTo t i.toNat).getD ((vertTo t i.toNat).length - 1) 0 : Int)
  num : n ≤ i.toNat
  num2 : k ≤ i.toNat
  pos : 1 ≤ (vertTo t i.toNat).length
theorem vertTo_one (t : List Int) : vertTo t 1 = [0] := by
  have : vertP t 0 = true := by simp [vertP]
  simp [vertTo, this, List.filter_cons, List.range_succ]
theorem PartI.start {t : List Int} (h : 2 ≤ t.length) : PartI t 1 0 [] [] 0 0 [] [] 0 0 := by
  have e : (1 : Int).toNat = 1 := rfl
  refine ⟨by omega, by omega, Row.empty, Row.empty, ?_, ?_, fun _ => ?_, by omega, by omega, ?_⟩
  · rw [e, vertTo_one]; rfl
  · rw [if_pos (by omega), e, vertTo_one]; rfl
  · rw [e, vertTo_one]; rfl
  · rw [e, vertTo_one]; exact Nat.le_refl _
theorem vertTo_app (t : List Int) {i : Nat} : ∀ {N : Nat}, i ≤ N → ∃ R, vertTo t N = vertTo t i ++ R
  | 0, h => ⟨[], by rw [show i = 0 by omega]; simp⟩
  | N + 1, h => by
    by_cases hi : i = N + 1
    · exact ⟨[], by rw [hi]; simp⟩
    · obtain ⟨R, hR⟩ := vertTo_app t (N := N) (i := i) (by omega)
      exact ⟨R ++ (if vertP t N then [N] else []), by rw [vertTo_succ, hR, List.append_assoc]⟩
theorem vertTo_at {t : List Int} {i N j : Nat} (hi : i ≤ N) (hj : j < (vertTo t i).length) : (vertTo t N).getD j 0 = (vertTo t i).getD j 0 := by
  obtain ⟨R, hR⟩ := vertTo_app t hi
  rw [hR]
  simp [List.getD, List.getElem?_append_left, hj]
section
variable {t : List Int} {i now : Int} {L sp sp' M sq sq' : List Value} {n c c' k d d' : Nat}
theorem vertP_iff2 (h0 : 1 ≤ i) (hi : i < (t.length : Int)) (hl : t.length ≤ 2000) : vertP t i.toNat = true ↔ (i = w64 ((t.length : Int) - 1) ∨ t.getD i.toNat 0 > 2) := by
  have := vert_iff (t := t) (i := i) (by omega) hi hl
  rw [this]
  constructor
  · rintro (h | h | h)
    · omega
    · exact .inl h
    · exact .inr h
  · rintro (h | h)
    · exact .inr (.inl h)
    · exact .inr (.inr h)
/-- A vertex at i: its place among all vertices, and what is behind it. -/
theorem vert_add (h0 : 1 ≤ i) (hi : i < (t.length : Int)) (hp : vertP t i.toNat = true) : vertTo t (i + 1).toNat = vertTo t i.toNat ++ [i.toNat] := by
  rw [show (i + 1).toNat = i.toNat + 1 by omega, vertTo_succ, if_pos hp]
theorem lenE_at (h0 : 1 ≤ i) (hi : i < (t.length : Int)) (hp : vertP t i.toNat = true) (hpos : 1 ≤ (vertTo t i.toNat).length) : lenE (vertTo t t.length) ((vertTo t i.toNat).length - 1) = i - ((vertTo t i.toNat).getD ((vertTo t i.toNat).length - 1) 0 : Int) := by
  unfold lenE
  have h1 := vert_add h0 hi hp
  have e1 : (vertTo t t.length).getD ((vertTo t i.toNat).length - 1 + 1) 0 = i.toNat := by
    rw [vertTo_at (i := (i + 1).toNat) (by omega) (by rw [h1]; simp; omega), h1, show (vertTo t i.toNat).length - 1 + 1 = (vertTo t i.toNat).length by omega]
    simp [List.getD]
  have e2 : (vertTo t t.length).getD ((vertTo t i.toNat).length - 1) 0 = (vertTo t i.toNat).getD ((vertTo t i.toNat).length - 1) 0 := vertTo_at (by omega) (by omega)
  rw [e1, e2]
  omega
theorem sinE_at (h0 : 1 ≤ i) (hi : i < (t.length : Int)) (hp : vertP t i.toNat = true) (hpos : 1 ≤ (vertTo t i.toNat).length) : sinE t (vertTo t t.length) ((vertTo t i.toNat).length - 1) = w64 (t.getD i.toNat 0 - 2) := by
  unfold sinE
  have h1 := vert_add h0 hi hp
  have e1 : (vertTo t t.length).getD ((vertTo t i.toNat).length - 1 + 1) 0 = i.toNat := by
    rw [vertTo_at (i := (i + 1).toNat) (by omega) (by rw [h1]; simp; omega), h1, show (vertTo t i.toNat).length - 1 + 1 = (vertTo t i.toNat).length by omega]
    simp [List.getD]
  rw [e1]
theorem last_lt (h : 1 ≤ (vertTo t i.toNat).length) : (vertTo t i.toNat).getD ((vertTo t i.toNat).length - 1) 0 < i.toNat := vertTo_lt (getD_mem (by omega))
theorem PartI.now1 (h : PartI t i now L sp n c M sq k d) (hi : i < (t.length : Int)) (hl : t.length ≤ 2000) : w64 (now + 1) = i - ((vertTo t i.toNat).getD ((vertTo t i.toNat).length - 1) 0 : Int) := by
  have h1 := h.now hi; have h2 := last_lt h.pos; have h3 := h.lo
  rw [h1, w64_in (by omega) (by omega)]; omega
theorem PartI.skip (h : PartI t i now L sp n c M sq k d) (hi : i < (t.length : Int)) (hl : t.length ≤ 2000) (hv : ¬ (i = w64 ((t.length : Int) - 1) ∨ t.getD i.toNat 0 > 2)) :
    PartI t (w64 (i + 1)) (w64 (now + 1)) L sp n c M sq k d := by
  have h0 := h.lo
  have hp : ¬ vertP t i.toNat = true := fun hh => hv ((vertP_iff2 h0 hi hl).1 hh)
  have hne : i ≠ (t.length : Int) - 1 := fun hh => hv (.inl (by rw [w64_in (by omega) (by omega)]; exact hh))
  have e : vertTo t (i + 1).toNat = vertTo t i.toNat := by rw [show (i + 1).toNat = i.toNat + 1 by omega, vertTo_succ, if_neg hp, List.append_nil]
  have hn := h.now1 hi hl
  have h5 := h.num; have h6 := h.num2
  rw [w64_in (n := i + 1) (by omega) (by omega)]
  refine ⟨by omega, by omega, h.row, h.row2, by rw [e]; exact h.lst, ?_, fun _ => by rw [e, hn]; omega, by omega, by omega, by rw [e]; exact h.pos⟩
  have := h.lst2
  rw [if_pos hi] at this
  rw [if_pos (by omega), e]
  exact this
theorem PartI.vert (h : PartI t i now L sp n c M sq k d) (hi : i < (t.length : Int)) (hl : t.length ≤ 2000) (hlt : ¬ i = w64 ((t.length : Int) - 1)) (hv : t.getD i.toNat 0 > 2)
    {x y : Int} (hx : x = w64 (now + 1)) (hy : y = w64 (t.getD i.toNat 0 - 2)) (hr : Row (L ++ [iv x]) sp' (n + 1) c' 1) (hr2 : Row (M ++ [iv y]) sq' (k + 1) d' 1) :
    PartI t (w64 (i + 1)) 0 (L ++ [iv x]) sp' (n + 1) c' (M ++ [iv y]) sq' (k + 1) d' := by
  subst hx hy
  have h0 := h.lo
  have hp := (vertP_iff2 h0 hi hl).2 (.inr hv)
  rw [w64_in (by omega) (by omega)] at hlt
  have e := vert_add h0 hi hp
  have hn := h.now1 hi hl
  have h5 := h.num; have h6 := h.num2; have h7 := h.pos
  rw [w64_in (n := i + 1) (by omega) (by omega)]
  have el : (vertTo t (i + 1).toNat).length = (vertTo t i.toNat).length + 1 := by rw [e]; simp
  refine ⟨by omega, by omega, hr, hr2, ?_, ?_, fun _ => ?_, by omega, by omega, by omega⟩
  · rw [el, show (vertTo t i.toNat).length + 1 - 1 = (vertTo t i.toNat).length - 1 + 1 by omega, tab_succ, il_snoc, h.lst, hn, lenE_at h0 hi hp h7]
  · have := h.lst2
    rw [if_pos hi] at this
    rw [if_pos (by omega), el, show (vertTo t i.toNat).length + 1 - 1 = (vertTo t i.toNat).length - 1 + 1 by omega, tab_succ, il_snoc, this, sinE_at h0 hi hp h7]
  · rw [e]
    simp [List.getD]
    omega
theorem PartI.last (h : PartI t i now L sp n c M sq k d) (hi : i < (t.length : Int)) (hl : t.length ≤ 2000) (hlt : i = w64 ((t.length : Int) - 1))
    {x z : Int} (hx : x = w64 (now + 1)) (hr : Row (L ++ [iv x]) sp' (n + 1) c' 1) :
    PartI t (w64 (i + 1)) z (L ++ [iv x]) sp' (n + 1) c' M sq k d := by
  subst hx
  have h0 := h.lo
  have hp := (vertP_iff2 h0 hi hl).2 (.inl hlt)
  rw [w64_in (by omega) (by omega)] at hlt
  have e := vert_add h0 hi hp
  have hn := h.now1 hi hl
  have h5 := h.num; have h6 := h.num2; have h7 := h.pos
  rw [w64_in (n := i + 1) (by omega) (by omega)]
  have el : (vertTo t (i + 1).toNat).length = (vertTo t i.toNat).length + 1 := by rw [e]; simp
  refine ⟨by omega, by omega, hr, h.row2, ?_, ?_, fun hh => by omega, by omega, by omega, by omega⟩
  · rw [el, show (vertTo t i.toNat).length + 1 - 1 = (vertTo t i.toNat).length - 1 + 1 by omega, tab_succ, il_snoc, h.lst, hn, lenE_at h0 hi hp h7]
  · have := h.lst2
    rw [if_pos hi] at this
    rw [if_neg (by omega), this]
    have : vertTo t t.length = vertTo t (i + 1).toNat := by congr 1; omega
    rw [this, el]
    rfl
theorem PartI.fin (h : PartI t i now L sp n c M sq k d) (hi : ¬ i < (t.length : Int)) : L = il (lenL t (vertTo t t.length)) ∧ M = il (sinL t (vertTo t t.length)) ∧ n ≤ t.length ∧ k ≤ t.length := by
  have h1 := h.lo; have h2 := h.hi; have h3 := h.num; have h4 := h.num2
  have e : i.toNat = t.length := by omega
  have h5 := h.lst2
  rw [if_neg hi] at h5
  refine ⟨by rw [h.lst, e]; rfl, h5, by omega, by omega⟩
end

/-! ### The loop that weaves lengths and sines -/

structure WeavI (t : List Int) (W : List Nat) (i : Int) (L sp : List Value) (n c : Nat) : Prop where
  lo : 0 ≤ i
  hi : i ≤ (W.length : Int) - 1
  row : Row L sp n c 1
  lst : L = il (tab (if i < (W.length : Int) - 1 then 2 * i.toNat else 2 * W.length - 3) (seqE t W))
  num : n ≤ 2 * i.toNat
theorem WeavI.start (t : List Int) {W : List Nat} (h : 2 ≤ W.length) : WeavI t W 0 [] [] 0 0 := ⟨by omega, by omega, Row.empty, by rw [if_pos (by omega)]; rfl, by omega⟩
section
variable {t : List Int} {W : List Nat} {i : Int} {L sp sp' : List Value} {n c c' : Nat}
theorem WeavI.both (h : WeavI t W i L sp n c) (hi : i < ((lenL t W).length : Int)) (hs : i < ((sinL t W).length : Int)) (hl : W.length ≤ 2000) {u v : Int} (hu : u = (lenL t W).getD i.toNat 0) (hv : v = (sinL t W).getD i.toNat 0)
    (hr : Row (L ++ [iv u] ++ [iv v]) sp' (n + 1 + 1) c' 1) : WeavI t W (w64 (i + 1)) (L ++ [iv u] ++ [iv v]) sp' (n + 1 + 1) c' := by
  have h0 := h.lo; have h1 := h.num
  unfold lenL at hi hu
  unfold sinL at hs hv
  rw [tab_len] at hi hs
  rw [tab_at (by omega)] at hu hv
  subst hu hv
  rw [w64_in (by omega) (by omega)]
  refine ⟨by omega, by omega, hr, ?_, by omega⟩
  have h2 := h.lst
  rw [if_pos (by omega)] at h2
  rw [if_pos (by omega), show 2 * (i + 1).toNat = 2 * i.toNat + 1 + 1 by omega, tab_succ, il_snoc, tab_succ, il_snoc, ← h2, seqE_even, seqE_odd]
theorem WeavI.end_ (h : WeavI t W i L sp n c) (hi : i < ((lenL t W).length : Int)) (hs : ¬ i < ((sinL t W).length : Int)) (hl : W.length ≤ 2000) {u : Int} (hu : u = (lenL t W).getD i.toNat 0)
    (hr : Row (L ++ [iv u]) sp' (n + 1) c' 1) : WeavI t W (w64 (i + 1)) (L ++ [iv u]) sp' (n + 1) c' := by
  have h0 := h.lo; have h1 := h.num
  unfold lenL at hi hu
  unfold sinL at hs
  rw [tab_len] at hi hs
  rw [tab_at (by omega)] at hu
  subst hu
  rw [w64_in (by omega) (by omega)]
  refine ⟨by omega, by omega, hr, ?_, by omega⟩
  have h2 := h.lst
  rw [if_pos (by omega)] at h2
  rw [if_neg (by omega), show 2 * W.length - 3 = 2 * i.toNat + 1 by omega, tab_succ, il_snoc, ← h2, seqE_even]
theorem WeavI.fin (h : WeavI t W i L sp n c) (hi : ¬ i < ((lenL t W).length : Int)) (h2 : 2 ≤ W.length) : L = il (seqL t W) := by
  unfold lenL at hi
  rw [tab_len] at hi
  have := h.lst
  rw [if_neg (by omega)] at this
  exact this
end

end Go.Ev
end

section
/-
  Long expansions of corners, and parents of fractions: the plain law.
  Conditions: none.
-/
set_option linter.unusedVariables false
set_option linter.unusedSimpArgs false
namespace Go.Ev
open Go.RowKit

/-- The expansion with an odd number of terms. -/
def longL (xs : List Int) : List Int := if xs.length % 2 = 1 then xs else xs.take (xs.length - 1) ++ [w64 (xs.getD (xs.length - 1) 0 - 1), 1]
theorem longL_odd {xs : List Int} (h : xs.length % 2 = 1) : longL xs = xs := by unfold longL; rw [if_pos h]
theorem longL_even {xs : List Int} (h : ¬ xs.length % 2 = 1) : longL xs = xs.take (xs.length - 1) ++ [w64 (xs.getD (xs.length - 1) 0 - 1), 1] := by unfold longL; rw [if_neg h]
theorem set_last {xs : List Int} {v : Int} (h : 0 < xs.length) : xs.set (xs.length - 1) v = xs.take (xs.length - 1) ++ [v] := by
  apply List.ext_getElem?
  intro j
  simp only [List.getElem?_set, List.getElem?_append, List.getElem?_take, List.length_take]
  grind
theorem il_set {xs : List Int} {sp : List Value} {o : Nat} {v : Int} (h : o < xs.length) : (il xs ++ sp).set o (iv v) = il (xs.set o v) ++ sp := by
  rw [List.set_append_left _ _ (by rw [il_len]; exact h)]
  simp [il, List.map_set]
theorem force_il {off : Nat} {xs ys : List Int} {sp : List Value} {v : Int} {k : List Value → Prop} (h : off < xs.length) (hy : xs.set off v = ys) (hk : k (il ys ++ sp)) : forceL (splice (il xs ++ sp) off [iv v]) k := by
  refine force_set (by rw [List.length_append, il_len]; omega) ?_
  rw [il_set h, hy]; exact hk
def headL (xs : List Int) : List Int := xs.take (xs.length - 1) ++ [w64 (xs.getD (xs.length - 1) 0 - 1)]
theorem headL_len {xs : List Int} (h : 0 < xs.length) : (headL xs).length = xs.length := by simp [headL]; omega
theorem headL_set {xs : List Int} {o : Nat} {v : Int} (h : 0 < xs.length) (ho : o = xs.length - 1) (hv : v = w64 (xs.getD (xs.length - 1) 0 - 1)) : xs.set o v = headL xs := by
  subst ho hv; exact set_last h
theorem longL_head {xs : List Int} (h : ¬ xs.length % 2 = 1) : il (longL xs) = il (headL xs) ++ [iv 1] := by
  rw [longL_even h]; simp [il, headL]
theorem longL_two {xs : List Int} (h : ¬ xs.length % 2 = 1) : il (longL xs) = il (xs.take (xs.length - 1)) ++ [iv (w64 (xs.getD (xs.length - 1) 0 - 1)), iv 1] := by
  rw [longL_even h]; simp [il]
theorem Row.head {xs : List Int} {sp : List Value} {n c : Nat} (h : Row (il xs) sp n c 1) (h0 : 0 < xs.length) : Row (il (headL xs)) sp n c 1 :=
  ⟨by rw [il_len, headL_len h0, ← il_len]; exact h.len, by rw [il_len, headL_len h0, ← il_len]; exact h.cap, il_plain _, h.ps⟩
theorem take_pref {xs : List Int} {sp : List Value} {m : Nat} (h : m ≤ xs.length) : List.take (m * 1) (List.drop 0 (il xs ++ sp)) = il (xs.take m) := by
  rw [List.drop_zero, Nat.mul_one, List.take_append_of_le_length (by rw [il_len]; exact h)]
  simp [il, List.map_take]
theorem pref_len {xs : List Int} {m : Nat} (h : m ≤ xs.length) : (il (xs.take m)).length = m * 1 := by rw [il_len, List.length_take]; omega
theorem last_w {n : Nat} (h : 0 < n) (h2 : n ≤ 1000001) : w64 ((n : Int) - 1) = (n : Int) - 1 ∧ 0 ≤ w64 ((n : Int) - 1) ∧ w64 ((n : Int) - 1) < (n : Int) ∧ (w64 ((n : Int) - 1)).toNat = n - 1 := by
  rw [w64_in (by omega) (by omega)]; omega
theorem expL_pos {p q : Int} (h : 0 < q) : 0 < (expL p q).length := by rw [expL_step h]; simp
theorem tmod2 {n : Nat} : ((n : Int)).tmod 2 = 0 ↔ ¬ n % 2 = 1 := by
  rw [tmod_pos (by omega)]; omega
theorem tmod2' {n : Nat} : ((n : Int)).tmod 2 = 1 ↔ n % 2 = 1 := by
  rw [tmod_pos (by omega)]; omega
theorem corn_exp {a b c d : Int} (h : isCornF a b c d = true) (h2 : bigF a b c d = false) : ExpOk (sineF a b c d) (cosF a b c d) ∧ 0 < cosF a b c d := by
  have h1 := sine_corn h
  have h3 := cos_bounds h
  have h4 : ¬ sineF a b c d > 1000000 := of_decide_eq_false h2
  exact ⟨⟨by omega, by omega, by omega, by omega⟩, by omega⟩

/-! ### Parents -/

def parR0 (a b : Int) : Int := mateY b a
def parR1 (a b : Int) : Int := mateX b a
def parL0 (a b : Int) : Int := a - parR0 a b
def parL1 (a b : Int) : Int := b - parR1 a b

structure ParOk (a b : Int) : Prop where
  pt : isPtF a b = true
  prim : primF a b = true
  two : 2 ≤ b
theorem ParOk.swap {a b : Int} (h : ParOk a b) : isPtF b a = true := by have := h.pt; rw [isPtF_iff] at *; omega
theorem ParOk.gcd {a b : Int} (h : ParOk a b) : Int.gcd a b = 1 := prim_gcd h.pt h.prim
theorem ParOk.bez {a b : Int} (h : ParOk a b) : BezOk a b := by
  have := pt_bez h.swap (by have := h.two; omega)
  rwa [Int.natAbs_of_nonneg (by have := h.two; omega)] at this
/-- What the parents are told by. -/
theorem par_all {a b : Int} (h : ParOk a b) : bezF a b % b = b - mateX b a ∧ 1 + a * mateX b a = b * mateY b a ∧ 1 ≤ mateX b a ∧ mateX b a < b := by
  have h2 := h.two
  have hg := h.gcd
  have hb := bez_mul h.bez hg
  have hn : (b.natAbs : Int) = b := Int.natAbs_of_nonneg (by omega)
  have hb0 : b ≠ 0 := by omega
  have hx : mateX b a = (-(bezF a b)) % b := by unfold mateX; rw [if_neg hb0, hn]
  have e1 := Int.emod_add_mul_ediv (bezF a b) b
  have e2 := Int.emod_add_mul_ediv (-(bezF a b)) b
  have l1 := Int.emod_nonneg (bezF a b) hb0
  have l2 := Int.emod_lt_of_pos (bezF a b) (show 0 < b by omega)
  have l3 := Int.emod_nonneg (-(bezF a b)) hb0
  have l4 := Int.emod_lt_of_pos (-(bezF a b)) (show 0 < b by omega)
  have hdvd : b ∣ 1 + a * mateX b a := by
    rw [hx]
    obtain ⟨k, hk⟩ := hb
    refine ⟨-k - a * ((-(bezF a b)) / b), ?_⟩
    generalize (-(bezF a b)) % b = r at *
    generalize (-(bezF a b)) / b = q at *
    generalize bezF a b = f at *
    have : r = -f - b * q := by omega
    rw [this]
    have h3 : 1 = a * f - b * k := by omega
    rw [Int.mul_sub b]
    grind
  have hy : 1 + a * mateX b a = b * mateY b a := by
    simp only [mateY, hb0, if_false]
    exact (Int.mul_tdiv_cancel' hdvd).symm
  have hne : bezF a b % b ≠ 0 := fun h0 => by
    have : b ∣ bezF a b := Int.dvd_of_emod_eq_zero h0
    have h5 : b ∣ a * bezF a b := Int.dvd_mul_of_dvd_right this
    have h6 : b ∣ 1 := by
      have := Int.dvd_sub h5 hb
      rwa [show a * bezF a b - (a * bezF a b - 1) = 1 by omega] at this
    have := Int.le_of_dvd (by omega) h6
    omega
  have hsum : bezF a b % b + (-(bezF a b)) % b = b := by
    generalize (-(bezF a b)) % b = r at *
    generalize (-(bezF a b)) / b = q at *
    generalize bezF a b % b = r' at *
    generalize bezF a b / b = q' at *
    have e3 : r + r' = b * (-(q + q')) := by rw [Int.mul_neg, Int.mul_add]; omega
    generalize -(q + q') = z at *
    rcases (by omega : z ≤ 0 ∨ z = 1 ∨ 2 ≤ z) with hz | hz | hz
    · have : b * z ≤ b * 0 := Int.mul_le_mul_of_nonneg_left hz (by omega)
      omega
    · subst hz; omega
    · have : b * 2 ≤ b * z := Int.mul_le_mul_of_nonneg_left hz (by omega)
      omega
  rw [hx] at hy ⊢
  refine ⟨by omega, hy, ?_, l4⟩
  rw [← hx] at *
  omega
theorem par_bounds {a b : Int} (h : ParOk a b) : isPtF (mateY b a) (mateX b a) = true := by
  have := mate_pt h.swap
  rw [isPtF_iff] at *; omega
theorem par_l {a b : Int} (h : ParOk a b) : (a * (bezF a b % b) - 1).tdiv b = parL0 a b := by
  have h1 := par_all h
  have h2 := h.two
  have e : a * (bezF a b % b) - 1 = b * (a - mateY b a) := by
    rw [h1.1, Int.mul_sub, Int.mul_sub, Int.mul_comm a b]; omega
  rw [e, Int.mul_tdiv_cancel_left _ (by omega)]
  rfl
/-- The left parent, as the program finds it. -/
theorem par_lP {a b : Int} (h : ParOk a b) : w64 ((w64 (w64 (a * (bezF a b % b)) - 1)).tdiv b) = parL0 a b ∧ bezF a b % b = parL1 a b := by
  have h1 := par_all h
  have h2 := h.two
  have h3 := isPtF_iff.1 h.pt
  have h4 := isPtF_iff.1 (par_bounds h)
  have h5 := mul_abs (x := a) (y := bezF a b % b) (m := 1000000) (n := 1000000) (by omega) (by omega) (by omega) (by omega) (by omega)
  refine ⟨?_, h1.1⟩
  rw [w64_in (n := a * (bezF a b % b)) (by omega) (by omega), w64_in (n := a * (bezF a b % b) - 1) (by omega) (by omega), par_l h]
  unfold parL0 parR0
  rw [w64_in (by omega) (by omega)]
theorem par_r {a b : Int} (h : ParOk a b) : plusF a (-1) (parL0 a b) = parR0 a b ∧ plusF b (-1) (parL1 a b) = parR1 a b := by
  have h3 := isPtF_iff.1 h.pt
  have h4 := isPtF_iff.1 (par_bounds h)
  rw [plusF_neg, plusF_neg]
  unfold parL0 parL1 parR0 parR1
  rw [w64_in (by omega) (by omega), w64_in (by omega) (by omega)]
  omega
theorem par_rS {a b : Int} (h : ParOk a b) : plusF a (-1) (parR0 a b) = parL0 a b ∧ plusF b (-1) (parR1 a b) = parL1 a b := by
  have h3 := isPtF_iff.1 h.pt
  have h4 := isPtF_iff.1 (par_bounds h)
  rw [plusF_neg, plusF_neg]
  unfold parL0 parL1 parR0 parR1
  rw [w64_in (by omega) (by omega), w64_in (by omega) (by omega)]
  omega

end Go.Ev
end

section
/-
  Angles of sequences: the plain law; copies of lists.
  Conditions: none.
-/
set_option linter.unusedVariables false
set_option linter.unusedSimpArgs false
namespace Go.Ev
open Go.RowKit

/-! ### Copies -/

theorem zeros_il : ∀ (n : Nat), zeros n [iv 0] = il (List.replicate n 0)
  | 0 => rfl
  | n + 1 => by
    rw [zeros, zeros_il n, List.replicate_succ', il_snoc]
theorem il_row (xs : List Int) : Row (il xs) [] xs.length xs.length 1 := ⟨by rw [il_len, Nat.mul_one], by rw [il_len]; simp, il_plain _, Plain.nil⟩

theorem take_away_il {xs : List Int} {sp : List Value} {off o i : Nat} (ho : o = off + i) (hi : i < xs.length) : List.take 1 (List.drop o (away off (il xs ++ sp))) = [iv (xs.getD i 0)] := by
  subst ho
  rw [take_away]
  exact take_il rfl hi
theorem set_il {off : Nat} {xs ys : List Int} {sp : List Value} {v : Int} {k : List Value → Prop} (h : off < xs.length) (hy : xs.set off v = ys) (hk : k (il ys ++ sp)) : forceL (splice (il xs ++ sp) off [iv v]) k := by
  refine force_set (by rw [List.length_append, il_len]; omega) ?_
  rw [List.set_append_left _ _ (by rw [il_len]; exact h), show (il xs).set off (iv v) = il (xs.set off v) by simp [il, List.map_set], hy]
  exact hk

/-- The state of a loop that copies xs: i numbers are copied. -/
structure CpyI (xs : List Int) (i : Int) (C : List Int) : Prop where
  lo : 0 ≤ i
  hi : i ≤ (xs.length : Int)
  len : C.length = xs.length
  eq : C = xs.take i.toNat ++ List.replicate (xs.length - i.toNat) 0
theorem CpyI.start (xs : List Int) : CpyI xs 0 (List.replicate xs.length 0) := ⟨by omega, by omega, by simp, by simp⟩
theorem CpyI.next {xs C : List Int} {i : Int} (h : CpyI xs i C) (hi : i < (xs.length : Int)) (hl : xs.length ≤ 1048576) {o : Nat} (ho : o = i.toNat) {v : Int} (hv : v = xs.getD i.toNat 0) : CpyI xs (w64 (i + 1)) (C.set o v) := by
  subst ho hv
  have h0 := h.lo
  rw [w64_in (by omega) (by omega)]
  refine ⟨by omega, by omega, by rw [List.length_set]; exact h.len, ?_⟩
  rw [h.eq, show (i + 1).toNat = i.toNat + 1 by omega, take_succ_getD (d := 0) (by omega), List.append_assoc]
  rw [List.set_append_right _ _ (by rw [List.length_take]; omega), List.length_take]
  congr 1
  rw [show i.toNat - min i.toNat xs.length = 0 by omega, show xs.length - i.toNat = (xs.length - (i.toNat + 1)) + 1 by omega, List.replicate_succ]
  rfl
theorem CpyI.fin {xs C : List Int} {i : Int} (h : CpyI xs i C) (hi : ¬ i < (xs.length : Int)) : C = xs := by
  have h1 := h.hi; have h0 := h.lo
  rw [h.eq, show i.toNat = xs.length by omega]
  simp

/-! ### The first number with a property -/

def idxI (p : Int → Bool) : List Int → Int → Int
  | [], _ => -1
  | x :: xs, k => if p x = true then k else idxI p xs (k + 1)
theorem idxI_ge (p : Int → Bool) : ∀ (xs : List Int) (k : Int), 0 ≤ k → decide (idxI p xs k ≥ 0) = xs.any p
  | [], k, hk => by simp [idxI]
  | x :: xs, k, hk => by
    rw [idxI, List.any_cons]
    cases h : p x
    · simp only [Bool.false_eq_true, if_false, Bool.false_or]
      exact idxI_ge p xs (k + 1) (by omega)
    · simp only [if_true, Bool.true_or, decide_eq_true_eq]; omega
structure FirI (p : Int → Bool) (xs : List Int) (i : Int) : Prop where
  lo : 0 ≤ i
  hi : i ≤ (xs.length : Int)
  eq : idxI p (xs.drop i.toNat) i = idxI p xs 0
theorem FirI.start (p : Int → Bool) (xs : List Int) : FirI p xs 0 := ⟨by omega, by omega, rfl⟩
theorem drop_atI {xs : List Int} {k : Nat} (h : k < xs.length) : xs.drop k = xs.getD k 0 :: xs.drop (k + 1) := by
  rw [List.drop_eq_getElem_cons h]
  simp [List.getD, h]
theorem FirI.hit {p : Int → Bool} {xs : List Int} {i : Int} (h : FirI p xs i) (hi : i < (xs.length : Int)) (hp : p (xs.getD i.toNat 0) = true) : idxI p xs 0 = i := by
  have h0 := h.lo
  rw [← h.eq, drop_atI (by omega), idxI, if_pos hp]
theorem FirI.next {p : Int → Bool} {xs : List Int} {i : Int} (h : FirI p xs i) (hi : i < (xs.length : Int)) (hl : xs.length ≤ 1048576) (hp : p (xs.getD i.toNat 0) = false) : FirI p xs (w64 (i + 1)) := by
  have h0 := h.lo
  rw [w64_in (by omega) (by omega)]
  refine ⟨by omega, by omega, ?_⟩
  rw [← h.eq, drop_atI (k := i.toNat) (by omega), idxI, hp, show (i + 1).toNat = i.toNat + 1 by omega]
  rfl
theorem FirI.fin {p : Int → Bool} {xs : List Int} {i : Int} (h : FirI p xs i) (hi : ¬ i < (xs.length : Int)) : idxI p xs 0 = -1 := by
  have h0 := h.hi
  rw [← h.eq, List.drop_eq_nil_of_le (by omega)]
  rfl

theorem FirI.no {p : Int → Bool} {xs : List Int} {i : Int} (h : FirI p xs i) (hi : i < (xs.length : Int)) (hx : xs.any p = false) : p (xs.getD i.toNat 0) = false := by
  have h0 := h.lo
  have hm : xs.getD i.toNat 0 ∈ xs := getD_mem (by omega)
  have := List.any_eq_false.1 hx _ hm
  simpa using this
theorem FirI.never {p : Int → Bool} {xs : List Int} {i : Int} (h : FirI p xs i) (hi : ¬ i < (xs.length : Int)) (hx : xs.any p = true) : False := by
  have h1 := h.fin hi
  have h2 := idxI_ge p xs 0 (by omega)
  rw [h1, hx] at h2
  simp at h2
theorem FirI.mu {p : Int → Bool} {xs : List Int} {i : Int} (h : FirI p xs i) (hi : i < (xs.length : Int)) (hl : xs.length ≤ 1048576) : ((xs.length : Int) - w64 (i + 1)).toNat < ((xs.length : Int) - i).toNat := by
  have h0 := h.lo
  rw [w64_in (by omega) (by omega)]; omega

/-! ### Angles -/

def lowP (n : Int) : Bool := decide (n < 1)
def bigP (n : Int) : Bool := decide (n > 1000000)
/-- What is left of the numbers, and whether it is a length's turn; the point and the direction. -/
def angF : List Int → Bool → Int → Int → Int → Int → Option (Int × Int)
  | [], _, p, q, _, _ => some (p, q)
  | x :: xs, true, p, q, r, s => if x ≤ 1000000 ∧ isPtF (p + x * r) (q + x * s) = true then angF xs false (p + x * r) (q + x * s) r s else none
  | x :: xs, false, p, q, r, s => if x ≤ 1000000 ∧ isPtF (r + x * p) (s + x * q) = true then angF xs true p q (r + x * p) (s + x * q) else none
def angG : List Int → Bool → Int → Int → Int → Int → Option (Int × Int)
  | [], _, p, q, _, _ => some (p, q)
  | x :: xs, true, p, q, r, s => if isPtF (p + x * r) (q + x * s) = true then angG xs false (p + x * r) (q + x * s) r s else none
  | x :: xs, false, p, q, r, s => if isPtF (p + (r + x * p)) (q + (s + x * q)) = true then angG xs true p q (r + x * p) (s + x * q) else none
theorem angF_big : ∀ (xs : List Int) (b : Bool) (p q r s : Int), xs.any bigP = true → angF xs b p q r s = none
  | [], b, p, q, r, s, h => by simp at h
  | x :: xs, b, p, q, r, s, h => by
    rw [List.any_cons, Bool.or_eq_true] at h
    cases b
    · rw [angF]
      split
      · rename_i hc
        rcases h with h | h
        · have := of_decide_eq_true h; omega
        · exact angF_big xs _ _ _ _ _ h
      · rfl
    · rw [angF]
      split
      · rename_i hc
        rcases h with h | h
        · have := of_decide_eq_true h; omega
        · exact angF_big xs _ _ _ _ _ h
      · rfl
structure Nn (p q r s : Int) : Prop where
  p : 0 ≤ p
  q : 0 ≤ q
  r : 0 ≤ r
  s : 0 ≤ s
theorem ang_same : ∀ (n : Nat) (xs : List Int) (p q r s : Int), xs.length ≤ n → xs.length % 2 = 1 → (∀ x ∈ xs, 1 ≤ x ∧ x ≤ 1000000) → Nn p q r s → angF xs true p q r s = angG xs true p q r s
  | 0, xs, p, q, r, s, hn, ho, hx, hp => by omega
  | n + 1, [], p, q, r, s, hn, ho, hx, hp => by simp at ho
  | n + 1, [x], p, q, r, s, hn, ho, hx, hp => by
    have := hx x (by simp)
    rw [angF, angG]
    simp only [this.2, true_and, angF, angG]
  | n + 1, [x, y], p, q, r, s, hn, ho, hx, hp => by simp at ho
  | n + 1, x :: y :: z :: xs, p, q, r, s, hn, ho, hx, hp => by
    have h1 := hx x (by simp); have h2 := hx y (by simp); have h3 := hx z (by simp)
    obtain ⟨k1, k2, k3, k4⟩ := hp
    have e1 : 0 ≤ x * r := Int.mul_nonneg (by omega) k3
    have e2 : 0 ≤ x * s := Int.mul_nonneg (by omega) k4
    rw [angF, angG]
    simp only [h1.2, true_and]
    split
    · rw [angF, angG]
      simp only [h2.2, true_and]
      generalize hP : p + x * r = P at *
      generalize hQ : q + x * s = Q at *
      have e3 : 0 ≤ y * P := Int.mul_nonneg (by omega) (by omega)
      have e4 : 0 ≤ y * Q := Int.mul_nonneg (by omega) (by omega)
      generalize hR : r + y * P = R at *
      generalize hS : s + y * Q = S at *
      have hn2 : Nn P Q R S := ⟨by omega, by omega, by omega, by omega⟩
      by_cases hb : isPtF (P + R) (Q + S) = true
      · have hrs : isPtF R S = true := by rw [isPtF_iff] at *; omega
        rw [if_pos hrs, if_pos hb]
        exact ang_same n (z :: xs) _ _ _ _ (by simp at hn ⊢; omega) (by simp at ho ⊢; omega) (fun u hu => hx u (List.mem_cons_of_mem _ (List.mem_cons_of_mem _ hu))) hn2
      · rw [if_neg hb]
        split
        · rw [angF]
          have u1 : 1 * R ≤ z * R := Int.mul_le_mul_of_nonneg_right h3.1 (by omega)
          have u2 : 1 * S ≤ z * S := Int.mul_le_mul_of_nonneg_right h3.1 (by omega)
          have : ¬ isPtF (P + z * R) (Q + z * S) = true := fun hh => hb (by rw [isPtF_iff] at *; omega)
          rw [if_neg (fun hh => this hh.2)]
        · rfl
    · rfl

/-- The state of the spec's loop. -/
structure AngS (xs : List Int) (i : Int) (p q r s : Int) : Prop where
  lo : 0 ≤ i
  hi : i ≤ (xs.length : Int)
  nn : Nn p q r s
  pt : isPtF p q = true
  pt2 : isPtF r s = true
  eq : angF (xs.drop i.toNat) (decide (i % 2 = 0)) p q r s = angF xs true 1 0 0 1
theorem AngS.start (xs : List Int) : AngS xs 0 1 0 0 1 := ⟨by omega, by omega, ⟨by omega, by omega, by omega, by omega⟩, by rw [isPtF_iff]; omega, by rw [isPtF_iff]; omega, rfl⟩
theorem ang_plus {a x b : Int} (ha : 0 ≤ a) (ha2 : a ≤ 1000000) (hb : 0 ≤ b) (hb2 : b ≤ 1000000) (hx : 1 ≤ x) (hx2 : x ≤ 1000000) : plusF a x b = a + x * b := by
  have := mul_abs_le (x := x) (y := b) (m := 1000000) (n := 1000000) (by omega) hx2 hb hb2 (by omega)
  unfold plusF
  rw [w64_in (n := x * b) (by omega) (by omega), w64_in (by omega) (by omega)]
section
variable {xs : List Int} {i p q r s : Int}
theorem AngS.x (h : AngS xs i p q r s) (hi : i < (xs.length : Int)) (hx : xs.any lowP = false) : 1 ≤ xs.getD i.toNat 0 := by
  have h0 := h.lo
  have hm : xs.getD i.toNat 0 ∈ xs := getD_mem (by omega)
  have := List.any_eq_false.1 hx _ hm
  simp only [lowP, decide_eq_true_eq] at this
  omega
theorem AngS.even (h : AngS xs i p q r s) (hi : i < (xs.length : Int)) (hx : xs.any lowP = false) (hb : ¬ xs.getD i.toNat 0 > 1000000) (he : i.tmod 2 = 0) :
    plusF p (xs.getD i.toNat 0) r = p + xs.getD i.toNat 0 * r ∧ plusF q (xs.getD i.toNat 0) s = q + xs.getD i.toNat 0 * s ∧ angF (xs.drop i.toNat) (decide (i % 2 = 0)) p q r s = (if isPtF (plusF p (xs.getD i.toNat 0) r) (plusF q (xs.getD i.toNat 0) s) = true then angF (xs.drop (i.toNat + 1)) false (plusF p (xs.getD i.toNat 0) r) (plusF q (xs.getD i.toNat 0) s) r s else none) := by
  have h0 := h.lo
  have hx1 := h.x hi hx
  have p1 := isPtF_iff.1 h.pt; have p2 := isPtF_iff.1 h.pt2
  obtain ⟨k1, k2, k3, k4⟩ := h.nn
  have e1 := ang_plus (a := p) (x := xs.getD i.toNat 0) (b := r) k1 (by omega) k3 (by omega) hx1 (by omega)
  have e2 := ang_plus (a := q) (x := xs.getD i.toNat 0) (b := s) k2 (by omega) k4 (by omega) hx1 (by omega)
  rw [tmod_pos h0] at he
  refine ⟨e1, e2, ?_⟩
  rw [e1, e2, drop_atI (k := i.toNat) (by omega), show decide (i % 2 = 0) = true from decide_eq_true he, angF]
  have hle : xs.getD i.toNat 0 ≤ 1000000 := by omega
  simp only [hle, true_and]
theorem AngS.odd (h : AngS xs i p q r s) (hi : i < (xs.length : Int)) (hx : xs.any lowP = false) (hb : ¬ xs.getD i.toNat 0 > 1000000) (he : ¬ i.tmod 2 = 0) :
    plusF r (xs.getD i.toNat 0) p = r + xs.getD i.toNat 0 * p ∧ plusF s (xs.getD i.toNat 0) q = s + xs.getD i.toNat 0 * q ∧ angF (xs.drop i.toNat) (decide (i % 2 = 0)) p q r s = (if isPtF (plusF r (xs.getD i.toNat 0) p) (plusF s (xs.getD i.toNat 0) q) = true then angF (xs.drop (i.toNat + 1)) true p q (plusF r (xs.getD i.toNat 0) p) (plusF s (xs.getD i.toNat 0) q) else none) := by
  have h0 := h.lo
  have hx1 := h.x hi hx
  have p1 := isPtF_iff.1 h.pt; have p2 := isPtF_iff.1 h.pt2
  obtain ⟨k1, k2, k3, k4⟩ := h.nn
  have e1 := ang_plus (a := r) (x := xs.getD i.toNat 0) (b := p) k3 (by omega) k1 (by omega) hx1 (by omega)
  have e2 := ang_plus (a := s) (x := xs.getD i.toNat 0) (b := q) k4 (by omega) k2 (by omega) hx1 (by omega)
  rw [tmod_pos h0] at he
  refine ⟨e1, e2, ?_⟩
  rw [e1, e2, drop_atI (k := i.toNat) (by omega), show decide (i % 2 = 0) = false from decide_eq_false he, angF]
  have hle : xs.getD i.toNat 0 ≤ 1000000 := by omega
  simp only [hle, true_and]
theorem AngS.nextE (h : AngS xs i p q r s) (hi : i < (xs.length : Int)) (hl : xs.length ≤ 60) (hx : xs.any lowP = false) (hb : ¬ xs.getD i.toNat 0 > 1000000) (he : i.tmod 2 = 0) (hp : isPtF (plusF p (xs.getD i.toNat 0) r) (plusF q (xs.getD i.toNat 0) s) = true) :
    AngS xs (w64 (i + 1)) (plusF p (xs.getD i.toNat 0) r) (plusF q (xs.getD i.toNat 0) s) r s := by
  have h0 := h.lo
  have hx1 := h.x hi hx
  obtain ⟨e1, e2, e3⟩ := h.even hi hx hb he
  obtain ⟨k1, k2, k3, k4⟩ := h.nn
  have m1 : 0 ≤ xs.getD i.toNat 0 * r := Int.mul_nonneg (by omega) k3
  have m2 : 0 ≤ xs.getD i.toNat 0 * s := Int.mul_nonneg (by omega) k4
  rw [if_pos hp] at e3
  rw [w64_in (by omega) (by omega)]
  refine ⟨by omega, by omega, ⟨by omega, by omega, k3, k4⟩, hp, h.pt2, ?_⟩
  rw [← h.eq, e3, show (i + 1).toNat = i.toNat + 1 by omega]
  rw [tmod_pos h0] at he
  rw [show decide ((i + 1) % 2 = 0) = false from decide_eq_false (by omega)]
theorem AngS.nextO (h : AngS xs i p q r s) (hi : i < (xs.length : Int)) (hl : xs.length ≤ 60) (hx : xs.any lowP = false) (hb : ¬ xs.getD i.toNat 0 > 1000000) (he : ¬ i.tmod 2 = 0) (hp : isPtF (plusF r (xs.getD i.toNat 0) p) (plusF s (xs.getD i.toNat 0) q) = true) :
    AngS xs (w64 (i + 1)) p q (plusF r (xs.getD i.toNat 0) p) (plusF s (xs.getD i.toNat 0) q) := by
  have h0 := h.lo
  have hx1 := h.x hi hx
  obtain ⟨e1, e2, e3⟩ := h.odd hi hx hb he
  obtain ⟨k1, k2, k3, k4⟩ := h.nn
  have m1 : 0 ≤ xs.getD i.toNat 0 * p := Int.mul_nonneg (by omega) k1
  have m2 : 0 ≤ xs.getD i.toNat 0 * q := Int.mul_nonneg (by omega) k2
  rw [if_pos hp] at e3
  rw [w64_in (by omega) (by omega)]
  refine ⟨by omega, by omega, ⟨k1, k2, by omega, by omega⟩, h.pt, hp, ?_⟩
  rw [← h.eq, e3, show (i + 1).toNat = i.toNat + 1 by omega]
  rw [tmod_pos h0] at he
  rw [show decide ((i + 1) % 2 = 0) = true from decide_eq_true (by omega)]
theorem AngS.failE (h : AngS xs i p q r s) (hi : i < (xs.length : Int)) (hx : xs.any lowP = false) (hb : ¬ xs.getD i.toNat 0 > 1000000) (he : i.tmod 2 = 0) (hp : isPtF (plusF p (xs.getD i.toNat 0) r) (plusF q (xs.getD i.toNat 0) s) = false) : angF xs true 1 0 0 1 = none := by
  obtain ⟨e1, e2, e3⟩ := h.even hi hx hb he
  rw [← h.eq, e3, if_neg (by rw [hp]; decide)]
theorem AngS.failO (h : AngS xs i p q r s) (hi : i < (xs.length : Int)) (hx : xs.any lowP = false) (hb : ¬ xs.getD i.toNat 0 > 1000000) (he : ¬ i.tmod 2 = 0) (hp : isPtF (plusF r (xs.getD i.toNat 0) p) (plusF s (xs.getD i.toNat 0) q) = false) : angF xs true 1 0 0 1 = none := by
  obtain ⟨e1, e2, e3⟩ := h.odd hi hx hb he
  rw [← h.eq, e3, if_neg (by rw [hp]; decide)]
theorem AngS.failB (h : AngS xs i p q r s) (hi : i < (xs.length : Int)) (hb : xs.getD i.toNat 0 > 1000000) : angF xs true 1 0 0 1 = none := by
  have h0 := h.lo
  refine angF_big _ _ _ _ _ _ ?_
  rw [List.any_eq_true]
  exact ⟨_, getD_mem (show i.toNat < xs.length by omega), decide_eq_true hb⟩
theorem AngS.fin (h : AngS xs i p q r s) (hi : ¬ i < (xs.length : Int)) : angF xs true 1 0 0 1 = some (p, q) := by
  have h1 := h.hi
  rw [← h.eq, List.drop_eq_nil_of_le (by omega), angF]
end


/-! ### The program's loops -/

structure AngM (xs : List Int) (R : Option (Int × Int)) (i b0 b1 n0 n1 : Int) : Prop where
  lo : 0 ≤ i
  hi : i ≤ (xs.length : Int)
  f0 : 0 ≤ b0 ∧ b0 ≤ n0
  f1 : 0 ≤ b1 ∧ b1 ≤ n1
  pt : isPtF n0 n1 = true
  ev : i % 2 = 0 → angG (xs.drop i.toNat) true b0 b1 (n0 - b0) (n1 - b1) = R
  od : ¬ i % 2 = 0 → angG (xs.drop i.toNat) false n0 n1 (n0 - b0) (n1 - b1) = R
theorem AngM.start {xs : List Int} {R : Option (Int × Int)} (h : angG xs true 1 0 0 1 = R) : AngM xs R 0 1 0 1 1 :=
  ⟨by omega, by omega, by omega, by omega, by rw [isPtF_iff]; omega, fun _ => h, fun hh => by omega⟩
/-- The loop in a length: j steps are done. -/
structure AngJ (x b0 b1 n0 n1 : Int) (j c0 c1 m0 m1 : Int) : Prop where
  lo : 0 ≤ j
  hi : j ≤ x - 1
  e0 : c0 = b0 + j * (n0 - b0)
  e1 : c1 = b1 + j * (n1 - b1)
  e2 : m0 = n0 + j * (n0 - b0)
  e3 : m1 = n1 + j * (n1 - b1)
  pt : isPtF m0 m1 = true
section
variable {xs : List Int} {R : Option (Int × Int)} {i b0 b1 n0 n1 j c0 c1 m0 m1 : Int}
theorem AngM.x (h : AngM xs R i b0 b1 n0 n1) (hi : i < (xs.length : Int)) (hx : xs.any lowP = false) (hb : xs.any bigP = false) : 1 ≤ xs.getD i.toNat 0 ∧ xs.getD i.toNat 0 ≤ 1000000 := by
  have h0 := h.lo
  have hm : xs.getD i.toNat 0 ∈ xs := getD_mem (by omega)
  have h1 := List.any_eq_false.1 hx _ hm
  have h2 := List.any_eq_false.1 hb _ hm
  simp only [lowP, bigP, decide_eq_true_eq] at h1 h2
  omega
theorem AngJ.start (h : AngM xs R i b0 b1 n0 n1) (hi : i < (xs.length : Int)) (hx : xs.any lowP = false) (hb : xs.any bigP = false) : AngJ (xs.getD i.toNat 0) b0 b1 n0 n1 0 b0 b1 n0 n1 :=
  ⟨by omega, by have := (h.x hi hx hb).1; omega, by omega, by omega, by omega, by omega, h.pt⟩
/-- The next point in a length. -/
theorem AngJ.val (h : AngM xs R i b0 b1 n0 n1) (k : AngJ (xs.getD i.toNat 0) b0 b1 n0 n1 j c0 c1 m0 m1) :
    plusF (plusF 0 (-1) c0) 2 m0 = n0 + (j + 1) * (n0 - b0) ∧ plusF (plusF 0 (-1) c1) 2 m1 = n1 + (j + 1) * (n1 - b1) := by
  have h1 := h.f0; have h2 := h.f1; have hp := isPtF_iff.1 k.pt
  have k0 := k.lo
  have u1 : 0 ≤ j * (n0 - b0) := Int.mul_nonneg k0 (by omega)
  have u2 : 0 ≤ j * (n1 - b1) := Int.mul_nonneg k0 (by omega)
  have v1 := k.e0; have v2 := k.e1; have v3 := k.e2; have v4 := k.e3
  have w1 : (j + 1) * (n0 - b0) = j * (n0 - b0) + (n0 - b0) := by rw [Int.add_mul, Int.one_mul]
  have w2 : (j + 1) * (n1 - b1) = j * (n1 - b1) + (n1 - b1) := by rw [Int.add_mul, Int.one_mul]
  rw [plusF_neg, plusF_neg]
  unfold plusF
  rw [w64_in (n := 0 - c0) (by omega) (by omega), w64_in (n := 0 - c1) (by omega) (by omega), w64_in (n := 2 * m0) (by omega) (by omega), w64_in (n := 2 * m1) (by omega) (by omega), w64_in (by omega) (by omega), w64_in (by omega) (by omega)]
  omega
theorem AngJ.next (h : AngM xs R i b0 b1 n0 n1) (k : AngJ (xs.getD i.toNat 0) b0 b1 n0 n1 j c0 c1 m0 m1) (hx : xs.getD i.toNat 0 ≤ 1000000) (hj : j < w64 (xs.getD i.toNat 0 - 1)) (hp : isPtF (plusF (plusF 0 (-1) c0) 2 m0) (plusF (plusF 0 (-1) c1) 2 m1) = true) :
    AngJ (xs.getD i.toNat 0) b0 b1 n0 n1 (w64 (j + 1)) m0 m1 (plusF (plusF 0 (-1) c0) 2 m0) (plusF (plusF 0 (-1) c1) 2 m1) := by
  have k0 := k.lo
  have v := AngJ.val h k
  have khi := k.hi
  rw [w64_in (by omega) (by omega)] at hj
  rw [w64_in (n := j + 1) (by omega) (by omega)]
  have w1 : (j + 1) * (n0 - b0) = j * (n0 - b0) + (n0 - b0) := by rw [Int.add_mul, Int.one_mul]
  have w2 : (j + 1) * (n1 - b1) = j * (n1 - b1) + (n1 - b1) := by rw [Int.add_mul, Int.one_mul]
  refine ⟨by omega, by omega, ?_, ?_, v.1, v.2, hp⟩
  · have := k.e2; omega
  · have := k.e3; omega
theorem AngJ.mu (k : AngJ (xs.getD i.toNat 0) b0 b1 n0 n1 j c0 c1 m0 m1) (hx : xs.getD i.toNat 0 ≤ 1000000) (hj : j < w64 (xs.getD i.toNat 0 - 1)) : (xs.getD i.toNat 0 - w64 (j + 1)).toNat < (xs.getD i.toNat 0 - j).toNat := by
  have k0 := k.lo; have khi := k.hi
  rw [w64_in (by omega) (by omega)] at hj ⊢; omega
theorem even_step (h : AngM xs R i b0 b1 n0 n1) (hi : i < (xs.length : Int)) (he : ¬ i.tmod 2 = 1) : i % 2 = 0 ∧ (if isPtF (b0 + xs.getD i.toNat 0 * (n0 - b0)) (b1 + xs.getD i.toNat 0 * (n1 - b1)) = true then angG (xs.drop (i.toNat + 1)) false (b0 + xs.getD i.toNat 0 * (n0 - b0)) (b1 + xs.getD i.toNat 0 * (n1 - b1)) (n0 - b0) (n1 - b1) else none) = R := by
  have h0 := h.lo
  rw [tmod_pos h0] at he
  have hev : i % 2 = 0 := by omega
  have := h.ev hev
  rw [drop_atI (k := i.toNat) (by omega), angG] at this
  exact ⟨hev, this⟩
theorem AngJ.fail (h : AngM xs R i b0 b1 n0 n1) (k : AngJ (xs.getD i.toNat 0) b0 b1 n0 n1 j c0 c1 m0 m1) (hi : i < (xs.length : Int)) (he : ¬ i.tmod 2 = 1) (hx : xs.getD i.toNat 0 ≤ 1000000) (hj : j < w64 (xs.getD i.toNat 0 - 1)) (hp : isPtF (plusF (plusF 0 (-1) c0) 2 m0) (plusF (plusF 0 (-1) c1) 2 m1) = false) : R = none := by
  have k0 := k.lo
  have v := AngJ.val h k
  have khi := k.hi
  rw [w64_in (by omega) (by omega)] at hj
  have h1 := h.f0; have h2 := h.f1
  obtain ⟨hev, hs⟩ := even_step h hi he
  have u1 : (j + 2) * (n0 - b0) ≤ xs.getD i.toNat 0 * (n0 - b0) := Int.mul_le_mul_of_nonneg_right (by omega) (by omega)
  have u2 : (j + 2) * (n1 - b1) ≤ xs.getD i.toNat 0 * (n1 - b1) := Int.mul_le_mul_of_nonneg_right (by omega) (by omega)
  have w1 : (j + 1) * (n0 - b0) = j * (n0 - b0) + (n0 - b0) := by rw [Int.add_mul, Int.one_mul]
  have w2 : (j + 1) * (n1 - b1) = j * (n1 - b1) + (n1 - b1) := by rw [Int.add_mul, Int.one_mul]
  have w3 : (j + 2) * (n0 - b0) = j * (n0 - b0) + 2 * (n0 - b0) := Int.add_mul ..
  have w4 : (j + 2) * (n1 - b1) = j * (n1 - b1) + 2 * (n1 - b1) := Int.add_mul ..
  have q1 : 0 ≤ j * (n0 - b0) := Int.mul_nonneg k0 (by omega)
  have q2 : 0 ≤ j * (n1 - b1) := Int.mul_nonneg k0 (by omega)
  have hnp : ¬ isPtF (b0 + xs.getD i.toNat 0 * (n0 - b0)) (b1 + xs.getD i.toNat 0 * (n1 - b1)) = true := fun hh => by
    have : isPtF (plusF (plusF 0 (-1) c0) 2 m0) (plusF (plusF 0 (-1) c1) 2 m1) = true := by
      rw [v.1, v.2, isPtF_iff] at *
      omega
    rw [hp] at this
    cases this
  rw [if_neg hnp] at hs
  exact hs.symm
theorem AngM.nextE (h : AngM xs R i b0 b1 n0 n1) (k : AngJ (xs.getD i.toNat 0) b0 b1 n0 n1 j c0 c1 m0 m1) (hi : i < (xs.length : Int)) (hl : xs.length ≤ 60) (he : ¬ i.tmod 2 = 1) (hx : xs.getD i.toNat 0 ≤ 1000000) (hj : ¬ j < w64 (xs.getD i.toNat 0 - 1)) : AngM xs R (w64 (i + 1)) c0 c1 m0 m1 := by
  have h0 := h.lo
  have k0 := k.lo
  have khi := k.hi
  have h1 := h.f0; have h2 := h.f1
  rw [w64_in (by omega) (by omega)] at hj
  have hjx : j = xs.getD i.toNat 0 - 1 := by omega
  obtain ⟨hev, hs⟩ := even_step h hi he
  have v1 := k.e0; have v2 := k.e1; have v3 := k.e2; have v4 := k.e3
  have q1 : 0 ≤ j * (n0 - b0) := Int.mul_nonneg k0 (by omega)
  have q2 : 0 ≤ j * (n1 - b1) := Int.mul_nonneg k0 (by omega)
  have w1 : xs.getD i.toNat 0 * (n0 - b0) = j * (n0 - b0) + (n0 - b0) := by
    have : xs.getD i.toNat 0 = j + 1 := by omega
    rw [this, Int.add_mul, Int.one_mul]
  have w2 : xs.getD i.toNat 0 * (n1 - b1) = j * (n1 - b1) + (n1 - b1) := by
    have : xs.getD i.toNat 0 = j + 1 := by omega
    rw [this, Int.add_mul, Int.one_mul]
  have e1 : b0 + xs.getD i.toNat 0 * (n0 - b0) = m0 := by omega
  have e2 : b1 + xs.getD i.toNat 0 * (n1 - b1) = m1 := by omega
  have e3 : m0 - c0 = n0 - b0 := by omega
  have e4 : m1 - c1 = n1 - b1 := by omega
  rw [e1, e2, if_pos k.pt] at hs
  rw [w64_in (by omega) (by omega)]
  refine ⟨by omega, by omega, by omega, by omega, k.pt, fun hh => by omega, fun _ => ?_⟩
  rw [e3, e4, show (i + 1).toNat = i.toNat + 1 by omega]
  exact hs
theorem AngM.oddv (h : AngM xs R i b0 b1 n0 n1) (hx : 1 ≤ xs.getD i.toNat 0 ∧ xs.getD i.toNat 0 ≤ 1000000) :
    plusF (plusF 0 (-1) b0) (w64 (xs.getD i.toNat 0 + 2)) n0 = n0 + (n0 - b0 + xs.getD i.toNat 0 * n0) ∧ plusF (plusF 0 (-1) b1) (w64 (xs.getD i.toNat 0 + 2)) n1 = n1 + (n1 - b1 + xs.getD i.toNat 0 * n1) := by
  have h1 := h.f0; have h2 := h.f1; have hp := isPtF_iff.1 h.pt
  have u1 := mul_abs_le (x := xs.getD i.toNat 0) (y := n0) (m := 1000000) (n := 1000000) (by omega) (by omega) (by omega) (by omega) (by omega)
  have u2 := mul_abs_le (x := xs.getD i.toNat 0) (y := n1) (m := 1000000) (n := 1000000) (by omega) (by omega) (by omega) (by omega) (by omega)
  rw [plusF_neg, plusF_neg, w64_in (n := xs.getD i.toNat 0 + 2) (by omega) (by omega)]
  unfold plusF
  have w1 : (xs.getD i.toNat 0 + 2) * n0 = xs.getD i.toNat 0 * n0 + 2 * n0 := Int.add_mul ..
  have w2 : (xs.getD i.toNat 0 + 2) * n1 = xs.getD i.toNat 0 * n1 + 2 * n1 := Int.add_mul ..
  rw [w1, w2, w64_in (n := 0 - b0) (by omega) (by omega), w64_in (n := 0 - b1) (by omega) (by omega), w64_in (n := xs.getD i.toNat 0 * n0 + 2 * n0) (by omega) (by omega), w64_in (n := xs.getD i.toNat 0 * n1 + 2 * n1) (by omega) (by omega), w64_in (by omega) (by omega), w64_in (by omega) (by omega)]
  omega
theorem odd_step (h : AngM xs R i b0 b1 n0 n1) (hi : i < (xs.length : Int)) (he : i.tmod 2 = 1) : ¬ i % 2 = 0 ∧ (if isPtF (n0 + (n0 - b0 + xs.getD i.toNat 0 * n0)) (n1 + (n1 - b1 + xs.getD i.toNat 0 * n1)) = true then angG (xs.drop (i.toNat + 1)) true n0 n1 (n0 - b0 + xs.getD i.toNat 0 * n0) (n1 - b1 + xs.getD i.toNat 0 * n1) else none) = R := by
  have h0 := h.lo
  rw [tmod_pos h0] at he
  have hev : ¬ i % 2 = 0 := by omega
  have := h.od hev
  rw [drop_atI (k := i.toNat) (by omega), angG] at this
  exact ⟨hev, this⟩
theorem AngM.nextO (h : AngM xs R i b0 b1 n0 n1) (hi : i < (xs.length : Int)) (hl : xs.length ≤ 60) (he : i.tmod 2 = 1) (hx : 1 ≤ xs.getD i.toNat 0 ∧ xs.getD i.toNat 0 ≤ 1000000)
    (hp : isPtF (plusF (plusF 0 (-1) b0) (w64 (xs.getD i.toNat 0 + 2)) n0) (plusF (plusF 0 (-1) b1) (w64 (xs.getD i.toNat 0 + 2)) n1) = true) :
    AngM xs R (w64 (i + 1)) n0 n1 (plusF (plusF 0 (-1) b0) (w64 (xs.getD i.toNat 0 + 2)) n0) (plusF (plusF 0 (-1) b1) (w64 (xs.getD i.toNat 0 + 2)) n1) := by
  have h0 := h.lo
  have h1 := h.f0; have h2 := h.f1
  have v := h.oddv hx
  obtain ⟨hev, hs⟩ := odd_step h hi he
  have q1 : 0 ≤ xs.getD i.toNat 0 * n0 := Int.mul_nonneg (by omega) (by omega)
  have q2 : 0 ≤ xs.getD i.toNat 0 * n1 := Int.mul_nonneg (by omega) (by omega)
  rw [v.1, v.2] at hp ⊢
  rw [if_pos hp] at hs
  rw [w64_in (by omega) (by omega)]
  refine ⟨by omega, by omega, by omega, by omega, hp, fun _ => ?_, fun hh => by omega⟩
  rw [show n0 + (n0 - b0 + xs.getD i.toNat 0 * n0) - n0 = n0 - b0 + xs.getD i.toNat 0 * n0 by omega, show n1 + (n1 - b1 + xs.getD i.toNat 0 * n1) - n1 = n1 - b1 + xs.getD i.toNat 0 * n1 by omega, show (i + 1).toNat = i.toNat + 1 by omega]
  exact hs
theorem AngM.failO (h : AngM xs R i b0 b1 n0 n1) (hi : i < (xs.length : Int)) (he : i.tmod 2 = 1) (hx : 1 ≤ xs.getD i.toNat 0 ∧ xs.getD i.toNat 0 ≤ 1000000)
    (hp : isPtF (plusF (plusF 0 (-1) b0) (w64 (xs.getD i.toNat 0 + 2)) n0) (plusF (plusF 0 (-1) b1) (w64 (xs.getD i.toNat 0 + 2)) n1) = false) : R = none := by
  have v := h.oddv hx
  obtain ⟨hev, hs⟩ := odd_step h hi he
  rw [v.1, v.2] at hp
  rw [if_neg (by rw [hp]; decide)] at hs
  exact hs.symm
theorem AngM.fin (h : AngM xs R i b0 b1 n0 n1) (hi : ¬ i < (xs.length : Int)) (ho : xs.length % 2 = 1) : R = some (n0, n1) := by
  have h1 := h.hi
  have := h.od (by omega)
  rw [List.drop_eq_nil_of_le (by omega), angG] at this
  exact this.symm
end
theorem ang_both {xs : List Int} (ho : xs.length % 2 = 1) (hx : xs.any lowP = false) (hb : xs.any bigP = false) : angG xs true 1 0 0 1 = angF xs true 1 0 0 1 :=
  (ang_same _ xs 1 0 0 1 (Nat.le_refl _) ho (fun x hm => by
    have h1 := List.any_eq_false.1 hx _ hm
    have h2 := List.any_eq_false.1 hb _ hm
    simp only [lowP, bigP, decide_eq_true_eq] at h1 h2
    omega) ⟨by omega, by omega, by omega, by omega⟩).symm

end Go.Ev
end

section
/-
  Places on sails, and points told by two neighbours of a sail: the plain law.
  Conditions: none.
-/
set_option linter.unusedVariables false
set_option linter.unusedSimpArgs false
namespace Go.Ev
open Go.RowKit

/-- The first place k of a list at which a point stands, counted from k on; -1 if there is none. -/
def idxP (a b : Int) : List (Int × Int) → Int → Int
  | [], _ => -1
  | p :: ps, k => if p.1 = a ∧ p.2 = b then k else idxP a b ps (k + 1)

structure PlcI (P : List (Int × Int)) (a b i : Int) : Prop where
  lo : 0 ≤ i
  hi : i ≤ (P.length : Int)
  eq : idxP a b (P.drop i.toNat) i = idxP a b P 0
theorem PlcI.start (P : List (Int × Int)) (a b : Int) : PlcI P a b 0 := ⟨by omega, by omega, rfl⟩
section
variable {P : List (Int × Int)} {a b i : Int}
theorem drop_at {P : List (Int × Int)} {k : Nat} (h : k < P.length) : P.drop k = P.getD k (0, 0) :: P.drop (k + 1) := by
  rw [List.drop_eq_getElem_cons h]
  simp [List.getD, h]
theorem PlcI.hit (h : PlcI P a b i) (hi : i < (P.length : Int)) (h1 : (P.getD i.toNat (0, 0)).1 = a) (h2 : (P.getD i.toNat (0, 0)).2 = b) : idxP a b P 0 = i := by
  have h0 := h.lo
  rw [← h.eq, drop_at (by omega), idxP, if_pos ⟨h1, h2⟩]
theorem PlcI.next (h : PlcI P a b i) (hi : i < (P.length : Int)) (hl : P.length ≤ 1000000) (h1 : ¬ ((P.getD i.toNat (0, 0)).1 = a ∧ (P.getD i.toNat (0, 0)).2 = b)) : PlcI P a b (w64 (i + 1)) := by
  have h0 := h.lo
  rw [w64_in (by omega) (by omega)]
  refine ⟨by omega, by omega, ?_⟩
  rw [← h.eq, drop_at (k := i.toNat) (by omega), idxP, if_neg h1, show (i + 1).toNat = i.toNat + 1 by omega]
theorem PlcI.fin (h : PlcI P a b i) (hi : ¬ i < (P.length : Int)) : idxP a b P 0 = -1 := by
  have h0 := h.hi
  rw [← h.eq, List.drop_eq_nil_of_le (by omega)]
  rfl
end
theorem PlcI.mu {P : List (Int × Int)} {a b i : Int} (h : PlcI P a b i) (hi : i < (P.length : Int)) (hl : P.length ≤ 1000000) : ((P.length : Int) - w64 (i + 1)).toNat < ((P.length : Int) - i).toNat := by
  have h0 := h.lo
  rw [w64_in (by omega) (by omega)]; omega

/-! ### Points of sails -/

theorem sailF_pts {a0 a1 b0 b1 : Int} (hg : Int.gcd b0 b1 = 1) : ∀ (k : Nat) {u v x y : Int} {ps : List (Int × Int)} {cs : List Int}, SailI a0 a1 b0 b1 u v x y → sailF b0 b1 k u v x y = some (ps, cs) →
    (∀ p ∈ ps, isPtF p.1 p.2 = true) ∧ ps.getD (ps.length - 1) (0, 0) = (b0, b1) ∧ 1 ≤ ps.length
  | 0, u, v, x, y, ps, cs, hI, h => by cases h
  | k + 1, u, v, x, y, ps, cs, hI, h => by
    rw [sailF] at h
    split at h
    · rename_i hd
      cases h
      refine ⟨fun p hp => ?_, ?_, by simp⟩
      · rw [List.mem_singleton] at hp; subst hp; exact hI.pt
      · obtain ⟨rfl, rfl⟩ := (hI.last hg).1 hd; rfl
    · rename_i hd
      cases hr : sailF b0 b1 k x y (turnL b0 b1 u v x y * x - u) (turnL b0 b1 u v x y * y - v) with
      | none => rw [hr] at h; cases h
      | some r =>
        obtain ⟨p, q⟩ := r
        rw [hr] at h
        simp only [Option.map_some, Option.some.injEq, Prod.mk.injEq] at h
        obtain ⟨rfl, rfl⟩ := h
        obtain ⟨h1, h2, h3⟩ := sailF_pts hg k (hI.turn hd).2.2 hr
        refine ⟨fun z hz => ?_, ?_, by simp⟩
        · rcases List.mem_cons.1 hz with rfl | hz
          · exact hI.pt
          · exact h1 z hz
        · rw [show ((x, y) :: p).length - 1 = p.length - 1 + 1 by simp; omega, List.getD_cons_succ]
          exact h2
theorem sailT_pts {a b c d t0 : Int} {P : List (Int × Int)} {T : List Int} (h : AngOk a b c d) (ht : sailT a b c d t0 = some (P, T)) :
    (∀ p ∈ P, isPtF p.1 p.2 = true) ∧ P.getD (P.length - 1) (0, 0) = (c, d) ∧ P.getD 0 (0, 0) = (a, b) ∧ 2 ≤ P.length := by
  unfold sailT at ht
  cases hr : sailR a b c d with
  | none => rw [hr] at ht; cases ht
  | some r =>
    obtain ⟨p, q⟩ := r
    rw [hr] at ht
    simp only [Option.map_some, Option.some.injEq, Prod.mk.injEq] at ht
    obtain ⟨rfl, rfl⟩ := ht
    obtain ⟨h1, h2, h3⟩ := sailF_pts h.gcd _ h.start hr
    refine ⟨fun z hz => ?_, ?_, rfl, by simp; omega⟩
    · rcases List.mem_cons.1 hz with rfl | hz
      · exact h.ca
      · exact h1 z hz
    · rw [show ((a, b) :: p).length - 1 = p.length - 1 + 1 by simp; omega, List.getD_cons_succ]
      exact h2

/-! ### Points told by two neighbours -/

/-- The determinant of a point and the (i + 1)-th point of a list, and of the i-th one and the point. -/
def splK (P : List (Int × Int)) (e f : Int) (i : Nat) : Int := detF e f (P.getD (i + 1) (0, 0)).1 (P.getD (i + 1) (0, 0)).2
def splL (P : List (Int × Int)) (e f : Int) (i : Nat) : Int := detF (P.getD i (0, 0)).1 (P.getD i (0, 0)).2 e f
/-- The first place from i on, among k, at which the determinant is greater than 0; else the one behind them. -/
def splN (P : List (Int × Int)) (e f : Int) : Nat → Nat → Nat
  | 0, i => i
  | k + 1, i => if splK P e f i > 0 then i else splN P e f k (i + 1)
def splAt (P : List (Int × Int)) (e f : Int) : Nat := splN P e f (P.length - 2) 0

theorem det_anti {a b e f : Int} (h1 : isPtF a b = true) (h2 : isPtF e f = true) : detF a b e f = -(detF e f a b) ∧ detF e f a b = e * b - f * a := by
  rw [isPtF_iff] at h1 h2
  have h3 := mul_abs (x := a) (y := f) (m := 1000000) (n := 1000000) (by omega) (by omega) (by omega) (by omega) (by omega)
  have h4 := mul_abs (x := b) (y := e) (m := 1000000) (n := 1000000) (by omega) (by omega) (by omega) (by omega) (by omega)
  unfold detF
  rw [Int.mul_comm e b, Int.mul_comm f a, w64_in (n := a * f) (by omega) (by omega), w64_in (n := b * e) (by omega) (by omega), w64_in (by omega) (by omega), w64_in (by omega) (by omega)]
  omega

structure SplI (P : List (Int × Int)) (e f i : Int) : Prop where
  lo : 0 ≤ i
  hi : i + 2 ≤ (P.length : Int)
  eq : splN P e f (P.length - 2 - i.toNat) i.toNat = splAt P e f
  l : splL P e f i.toNat ≥ 0
structure SplOk (P : List (Int × Int)) (e f : Int) : Prop where
  two : 2 ≤ P.length
  len : P.length ≤ 2000
  pts : ∀ p ∈ P, isPtF p.1 p.2 = true
  pt : isPtF e f = true
  one : splL P e f 0 ≥ 0
  last : splK P e f (P.length - 2) ≥ 0
theorem SplOk.of {a b c d e f t0 : Int} {P : List (Int × Int)} {T : List Int} (h : AngOk a b c d) (ht : sailT a b c d t0 = some (P, T)) (hl : P.length ≤ 2000) (hp : isPtF e f = true) (h1 : detF a b e f ≥ 0) (h2 : detF e f c d ≥ 0) : SplOk P e f := by
  obtain ⟨g1, g2, g3, g4⟩ := sailT_pts h ht
  refine ⟨g4, hl, g1, hp, ?_, ?_⟩
  · unfold splL; rw [g3]; exact h1
  · unfold splK; rw [show P.length - 2 + 1 = P.length - 1 by omega, g2]; exact h2
section
variable {P : List (Int × Int)} {e f i : Int}
theorem SplI.start (h : SplOk P e f) : SplI P e f 0 := ⟨by omega, by have := h.two; omega, rfl, h.one⟩
/-- The loop goes on. -/
theorem SplI.next (h : SplI P e f i) (ho : SplOk P e f) (hi : i + 2 < (P.length : Int)) (hk : ¬ splK P e f i.toNat > 0) : SplI P e f (w64 (i + 1)) := by
  have h0 := h.lo; have h5 := ho.len
  rw [w64_in (by omega) (by omega)]
  have e1 : (i + 1).toNat = i.toNat + 1 := by omega
  refine ⟨by omega, by omega, ?_, ?_⟩
  · rw [← h.eq, e1, show P.length - 2 - i.toNat = P.length - 2 - (i.toNat + 1) + 1 by omega, splN, if_neg hk]
  · rw [e1]
    have h1 : isPtF (P.getD (i.toNat + 1) (0, 0)).1 (P.getD (i.toNat + 1) (0, 0)).2 = true := ho.pts _ (getD_mem (by omega))
    have := (det_anti h1 ho.pt).1
    unfold splL splK at *
    omega
theorem SplI.mu (h : SplI P e f i) (ho : SplOk P e f) (hi : i + 2 ≤ (P.length : Int)) : ((P.length : Int) - w64 (i + 1)).toNat < ((P.length : Int) - i).toNat := by
  have h0 := h.lo; have h5 := ho.len
  rw [w64_in (by omega) (by omega)]; omega
theorem SplI.hit (h : SplI P e f i) (ho : SplOk P e f) (hk : splK P e f i.toNat > 0) : (splAt P e f : Int) = i := by
  have h0 := h.lo; have h1 := h.hi
  rw [← h.eq]
  by_cases hi : i + 2 = (P.length : Int)
  · rw [show P.length - 2 - i.toNat = 0 by omega]; show (i.toNat : Int) = i; omega
  · rw [show P.length - 2 - i.toNat = P.length - 2 - i.toNat - 1 + 1 by omega, splN, if_pos hk]; omega
theorem SplI.end_ (h : SplI P e f i) (ho : SplOk P e f) (hi : ¬ i + 2 < (P.length : Int)) : (splAt P e f : Int) = i := by
  have h0 := h.lo; have h1 := h.hi
  rw [← h.eq, show P.length - 2 - i.toNat = 0 by omega]; show (i.toNat : Int) = i; omega
theorem SplI.k (h : SplI P e f i) (ho : SplOk P e f) (hi : ¬ i + 2 < (P.length : Int)) : splK P e f i.toNat ≥ 0 := by
  have h0 := h.lo; have h1 := h.hi; have := ho.last
  rw [show i.toNat = P.length - 2 by omega]; exact this
end
/-- The three numbers. -/
def spl3 (P : List (Int × Int)) (e f : Int) : List Int := [(splAt P e f : Int), splK P e f (splAt P e f), splL P e f (splAt P e f)]
theorem SplI.three {P : List (Int × Int)} {e f i : Int} (h : SplI P e f i) (ha : (splAt P e f : Int) = i) : [i, splK P e f i.toNat, splL P e f i.toNat] = spl3 P e f := by
  unfold spl3
  rw [ha, show i.toNat = splAt P e f by omega]
theorem splK_w {P : List (Int × Int)} {e f i : Int} (h0 : 0 ≤ i) (h1 : i ≤ 2000) : detF e f (P.getD (w64 (i + 1)).toNat (0, 0)).1 (P.getD (w64 (i + 1)).toNat (0, 0)).2 = splK P e f i.toNat := by
  unfold splK
  rw [w64_in (by omega) (by omega), show (i + 1).toNat = i.toNat + 1 by omega]

end Go.Ev
end

section
/-
  Sequences of angles: the numbers of a sail, their continuants, and the way back from a sequence. The plain law.
  Conditions: none.
-/
set_option linter.unusedVariables false
set_option linter.unusedSimpArgs false
namespace Go.Ev

/-! ### The turns of two determinants -/
def tF : Nat → Int → Int → Option (List Int)
  | 0, _, _ => none
  | k + 1, D0, D1 => if D1 = 0 then some [] else (tF k D1 (-((-D0) / D1) * D1 - D0)).map fun r => -((-D0) / D1) :: r
theorem sail_tF {b0 b1 : Int} : ∀ (k : Nat) (u v x y : Int), (sailF b0 b1 k u v x y).map (fun r => r.2) = tF k (u * b1 - v * b0) (x * b1 - y * b0)
  | 0, u, v, x, y => rfl
  | k + 1, u, v, x, y => by
    rw [sailF, tF]
    split
    · rfl
    · have ih := sail_tF (b0 := b0) (b1 := b1) k x y (turnL b0 b1 u v x y * x - u) (turnL b0 b1 u v x y * y - v)
      have e : (turnL b0 b1 u v x y * x - u) * b1 - (turnL b0 b1 u v x y * y - v) * b0 = turnL b0 b1 u v x y * (x * b1 - y * b0) - (u * b1 - v * b0) := by grind
      rw [e] at ih
      have e2 : -((-(u * b1 - v * b0)) / (x * b1 - y * b0)) = turnL b0 b1 u v x y := rfl
      rw [e2, ← ih]
      cases sailF b0 b1 k x y (turnL b0 b1 u v x y * x - u) (turnL b0 b1 u v x y * y - v) <;> rfl
theorem tF_mono : ∀ (k : Nat) {D0 D1 : Int} {T : List Int} (j : Nat), tF k D0 D1 = some T → tF (k + j) D0 D1 = some T
  | 0, D0, D1, T, j, h => by simp [tF] at h
  | k + 1, D0, D1, T, j, h => by
    rw [Nat.add_right_comm, tF] at *
    split at h
    · rename_i h0; rw [if_pos h0]; exact h
    · rename_i h0
      rw [if_neg h0]
      cases h1 : tF k D1 (-((-D0) / D1) * D1 - D0) with
      | none => rw [h1] at h; cases h
      | some T' => rw [h1] at h; rw [tF_mono k j h1]; exact h
theorem tF_len : ∀ (k : Nat) {D0 D1 : Int} {T : List Int}, tF k D0 D1 = some T → T.length + 1 ≤ k
  | 0, D0, D1, T, h => by simp [tF] at h
  | k + 1, D0, D1, T, h => by
    rw [tF] at h
    split at h
    · cases h; simp
    · cases h1 : tF k D1 (-((-D0) / D1) * D1 - D0) with
      | none => rw [h1] at h; cases h
      | some T' => rw [h1] at h; cases h; have := tF_len k h1; simp; omega
/-- The step of a turn. -/
theorem tF_step {D0 D1 : Int} (h0 : 0 < D1) (h1 : D1 < D0) : 2 ≤ -((-D0) / D1) ∧ 0 ≤ -((-D0) / D1) * D1 - D0 ∧ -((-D0) / D1) * D1 - D0 < D1 := by
  have hb := ediv_bounds (a := -D0) (b := D1) h0
  generalize (-D0) / D1 = q at hb ⊢
  have e : -q * D1 = -(q * D1) := Int.neg_mul _ _
  have e2 : D1 * q = q * D1 := Int.mul_comm _ _
  have h2 : 2 ≤ -q := by
    rcases Classical.em (2 ≤ -q) with h | h
    · exact h
    · exfalso
      have : -1 ≤ q := by omega
      have := Int.mul_le_mul_of_nonneg_right this (Int.le_of_lt h0)
      omega
  omega
theorem tF_two : ∀ (k : Nat) {D0 D1 : Int} {T : List Int}, tF k D0 D1 = some T → 0 ≤ D1 → D1 < D0 → ∀ c ∈ T, 2 ≤ c
  | 0, D0, D1, T, h, _, _ => by simp [tF] at h
  | k + 1, D0, D1, T, h, h0, h1 => by
    rw [tF] at h
    split at h
    · cases h; simp
    · have hs := tF_step (D0 := D0) (D1 := D1) (by omega) h1
      cases h2 : tF k D1 (-((-D0) / D1) * D1 - D0) with
      | none => rw [h2] at h; cases h
      | some T' =>
        rw [h2] at h; cases h
        intro c hc
        rcases List.mem_cons.1 hc with rfl | hc
        · exact hs.1
        · exact tF_two k h2 hs.2.1 hs.2.2 c hc
def back : List Int → Int × Int
  | [] => (1, 0)
  | c :: T => (c * (back T).1 - (back T).2, (back T).1)
theorem gcd_turn (c D0 D1 : Int) : Int.gcd D1 (c * D1 - D0) = Int.gcd D0 D1 := by
  apply Nat.dvd_antisymm
  · have g1 := Int.gcd_dvd_left D1 (c * D1 - D0)
    have g2 := Int.gcd_dvd_right D1 (c * D1 - D0)
    have e : D0 = c * D1 - (c * D1 - D0) := by omega
    have g3 := Int.dvd_sub (Int.dvd_mul_of_dvd_right (b := c) g1) g2
    rw [← e] at g3
    exact Int.ofNat_dvd.1 (by have := Int.dvd_gcd g3 g1; exact Int.ofNat_dvd.2 this)
  · have g1 := Int.gcd_dvd_left D0 D1
    have g2 := Int.gcd_dvd_right D0 D1
    have g3 := Int.dvd_sub (Int.dvd_mul_of_dvd_right (b := c) g2) g1
    exact Int.ofNat_dvd.1 (by have := Int.dvd_gcd g2 g3; exact Int.ofNat_dvd.2 this)
theorem tF_back : ∀ (k : Nat) {D0 D1 : Int} {T : List Int}, tF k D0 D1 = some T → 0 ≤ D1 → D1 < D0 → Int.gcd D0 D1 = 1 → back T = (D0, D1)
  | 0, D0, D1, T, h, _, _, _ => by simp [tF] at h
  | k + 1, D0, D1, T, h, h0, h1, hg => by
    rw [tF] at h
    split at h
    · rename_i hz
      cases h
      subst hz
      rw [Int.gcd_zero_right] at hg
      have : D0 = 1 := by omega
      rw [this]; rfl
    · have hs := tF_step (D0 := D0) (D1 := D1) (by omega) h1
      cases h2 : tF k D1 (-((-D0) / D1) * D1 - D0) with
      | none => rw [h2] at h; cases h
      | some T' =>
        rw [h2] at h; cases h
        have ih := tF_back k h2 hs.2.1 hs.2.2 (by rw [gcd_turn]; exact hg)
        rw [back, ih]
        ext <;> simp only <;> omega

/-! ### Sequences -/
def cont : List Int → Int × Int
  | [] => (1, 0)
  | x :: xs => (x * (cont xs).1 + (cont xs).2, (cont xs).1)
theorem cont_pos : ∀ {xs : List Int}, (∀ x ∈ xs, 1 ≤ x) → 1 ≤ (cont xs).1 ∧ 0 ≤ (cont xs).2 ∧ (xs ≠ [] → 1 ≤ (cont xs).2 ∧ (cont xs).2 ≤ (cont xs).1)
  | [], h => ⟨by decide, by decide, fun h => absurd rfl h⟩
  | x :: xs, h => by
    have ih := cont_pos (xs := xs) fun y hy => h y (List.mem_cons_of_mem _ hy)
    have hx := h x List.mem_cons_self
    have := Int.mul_le_mul_of_nonneg_right hx (by omega : 0 ≤ (cont xs).1)
    rw [cont]
    simp only
    omega
theorem cont_gcd : ∀ (xs : List Int), Int.gcd (cont xs).1 (cont xs).2 = 1
  | [] => by decide
  | x :: xs => by
    have ih := cont_gcd xs
    rw [cont]
    simp only
    apply Nat.dvd_one.1
    rw [← ih]
    have g1 := Int.gcd_dvd_left (x * (cont xs).1 + (cont xs).2) (cont xs).1
    have g2 := Int.gcd_dvd_right (x * (cont xs).1 + (cont xs).2) (cont xs).1
    have g3 := Int.dvd_sub g1 (Int.dvd_mul_of_dvd_right (b := x) g2)
    rw [show x * (cont xs).1 + (cont xs).2 - x * (cont xs).1 = (cont xs).2 from by omega] at g3
    exact Int.ofNat_dvd.1 (by have := Int.dvd_gcd g2 g3; exact Int.ofNat_dvd.2 this)
def twos : List Int → List Int
  | [] => []
  | [x] => List.replicate (x - 1).toNat 2
  | x :: y :: rest => List.replicate (x - 1).toNat 2 ++ (y + 2) :: twos rest
def seqR : Int → List Int → List Int
  | n, [] => [n + 1]
  | n, c :: T => if c > 2 then (n + 1) :: (c - 2) :: seqR 0 T else seqR (n + 1) T
theorem seqR_odd : ∀ (T : List Int) (n : Int), (seqR n T).length % 2 = 1
  | [], n => rfl
  | c :: T, n => by
    rw [seqR]
    split
    · have := seqR_odd T 0
      simp only [List.length_cons]; omega
    · exact seqR_odd T (n + 1)
theorem seqR_pos : ∀ (T : List Int) (n : Int), 0 ≤ n → ∀ x ∈ seqR n T, 1 ≤ x
  | [], n, hn => by simp [seqR]; omega
  | c :: T, n, hn => by
    rw [seqR]
    split
    · intro x hx
      rcases List.mem_cons.1 hx with rfl | hx
      · omega
      · rcases List.mem_cons.1 hx with rfl | hx
        · omega
        · exact seqR_pos T 0 (by omega) x hx
    · exact seqR_pos T (n + 1) (by omega)
theorem twos_seqR : ∀ (T : List Int) (n : Nat), (∀ c ∈ T, 2 ≤ c) → twos (seqR (n : Int) T) = List.replicate n 2 ++ T
  | [], n, h => by
    rw [seqR, twos, List.append_nil]
    congr 1; omega
  | c :: T, n, h => by
    have hc := h c List.mem_cons_self
    have ht : ∀ c ∈ T, 2 ≤ c := fun x hx => h x (List.mem_cons_of_mem _ hx)
    rw [seqR]
    split
    · rw [twos]
      have := twos_seqR T 0 ht
      rw [show ((0 : Nat) : Int) = 0 from rfl] at this
      rw [this, show ((n : Int) + 1 - 1).toNat = n from by omega, show c - 2 + 2 = c from by omega]
      rfl
    · have := twos_seqR T (n + 1) ht
      rw [show ((n + 1 : Nat) : Int) = (n : Int) + 1 from by omega] at this
      rw [this, show c = 2 from by omega, List.replicate_succ', List.append_assoc]
      rfl
theorem seqR_rep : ∀ (m : Nat) (n : Int) (T : List Int), seqR n (List.replicate m 2 ++ T) = seqR (n + m) T
  | 0, n, T => by simp
  | m + 1, n, T => by
    rw [List.replicate_succ, List.cons_append, seqR, if_neg (by omega), seqR_rep m (n + 1) T]
    congr 1; omega
theorem seqR_twos : ∀ (k : Nat) (xs : List Int), xs.length ≤ k → xs.length % 2 = 1 → (∀ x ∈ xs, 1 ≤ x) → seqR 0 (twos xs) = xs
  | k, [], hk, ho, h => by simp at ho
  | k, [x], hk, ho, h => by
    have := h x List.mem_cons_self
    rw [twos]
    have := seqR_rep (x - 1).toNat 0 []
    rw [List.append_nil] at this
    rw [this, seqR]
    congr 1; omega
  | 0, x :: y :: rest, hk, ho, h => by simp at hk
  | k + 1, x :: y :: rest, hk, ho, h => by
    have h1 := h x List.mem_cons_self
    have h2 := h y (List.mem_cons_of_mem _ List.mem_cons_self)
    have ih := seqR_twos k rest (by simp at hk; omega) (by simp at ho; omega) fun z hz => h z (List.mem_cons_of_mem _ (List.mem_cons_of_mem _ hz))
    rw [twos, seqR_rep, seqR, if_pos (by omega), ih]
    congr 1
    · omega
    · congr 1; omega

/-! ### The turns of a sequence -/
theorem tF_rep {P R : Int} (hP : 0 < P) (hR : 0 ≤ R) {k : Nat} {T : List Int} (h : tF k (P + R) R = some T) : ∀ (m : Nat), tF (k + m) (((m : Int) + 1) * P + R) ((m : Int) * P + R) = some (List.replicate m 2 ++ T)
  | 0 => by simpa using h
  | m + 1 => by
    have ih := tF_rep hP hR h m
    have hm : 0 ≤ (m : Int) * P := Int.mul_nonneg (by omega) (by omega)
    have e1 : (((m + 1 : Nat) : Int) + 1) * P + R = (m : Int) * P + 2 * P + R := by grind
    have e2 : ((m + 1 : Nat) : Int) * P + R = (m : Int) * P + P + R := by grind
    have e3 : ((m : Int) + 1) * P + R = (m : Int) * P + P + R := by grind
    rw [e1, e2]
    rw [e3] at ih
    have hq : -((-((m : Int) * P + 2 * P + R)) / ((m : Int) * P + P + R)) = 2 := by
      have hb := ediv_bounds (a := -((m : Int) * P + 2 * P + R)) (b := (m : Int) * P + P + R) (by omega)
      generalize (-((m : Int) * P + 2 * P + R)) / ((m : Int) * P + P + R) = q at hb ⊢
      generalize (m : Int) * P = M at hb hm ⊢
      have e2 : (M + P + R) * q = q * (M + P + R) := Int.mul_comm _ _
      have h1 : ¬ -1 ≤ q := fun h => by
        have := Int.mul_le_mul_of_nonneg_right h (by omega : 0 ≤ M + P + R)
        omega
      have h2 : ¬ q ≤ -3 := fun h => by
        have := Int.mul_le_mul_of_nonneg_right h (by omega : 0 ≤ M + P + R)
        omega
      omega
    rw [show k + (m + 1) = (k + m) + 1 from rfl, tF, if_neg (by omega), hq, show 2 * ((m : Int) * P + P + R) - ((m : Int) * P + 2 * P + R) = (m : Int) * P + R from by omega, ih]
    rfl
theorem tF_twos : ∀ (n : Nat) (xs : List Int), xs.length ≤ n → xs.length % 2 = 1 → (∀ x ∈ xs, 1 ≤ x) → ∃ k, tF k (cont xs).1 ((cont xs).1 - (cont xs).2) = some (twos xs) ∧ k = (twos xs).length + 1
  | n, [], hn, ho, h => by simp at ho
  | n, [x], hn, ho, h => by
    have hx := h x List.mem_cons_self
    have := tF_rep (P := 1) (R := 0) (by decide) (by decide) (k := 1) (T := []) rfl (x - 1).toNat
    rw [List.append_nil, show (((x - 1).toNat : Int) + 1) * 1 + 0 = x from by omega, show ((x - 1).toNat : Int) * 1 + 0 = x - 1 from by omega] at this
    refine ⟨1 + (x - 1).toNat, ?_, by rw [twos, List.length_replicate]; omega⟩
    rw [twos]
    have e : cont [x] = (x, 1) := by simp [cont]
    rw [e]
    exact this
  | 0, x :: y :: rest, hn, ho, h => by simp at hn
  | n + 1, x :: y :: rest, hn, ho, h => by
    have hx := h x List.mem_cons_self
    have hy := h y (List.mem_cons_of_mem _ List.mem_cons_self)
    have hr : ∀ z ∈ rest, 1 ≤ z := fun z hz => h z (List.mem_cons_of_mem _ (List.mem_cons_of_mem _ hz))
    obtain ⟨k, ih, hk⟩ := tF_twos n rest (by simp at hn; omega) (by simp at ho; omega) hr
    have hne : rest ≠ [] := fun e => by rw [e] at ho; simp at ho
    obtain ⟨c1, c2, c3⟩ := cont_pos hr
    have c4 := c3 hne
    have e : cont (x :: y :: rest) = (x * (y * (cont rest).1 + (cont rest).2) + (cont rest).1, y * (cont rest).1 + (cont rest).2) := rfl
    generalize (cont rest).1 = A at *
    generalize (cont rest).2 = B at *
    have hyA : 1 * A ≤ y * A := Int.mul_le_mul_of_nonneg_right hy (by omega)
    have base : tF (k + 1) ((y * A + B) + A) A = some ((y + 2) :: twos rest) := by
      have hq : -((-((y * A + B) + A)) / A) = y + 2 := by
        have hb := ediv_bounds (a := -((y * A + B) + A)) (b := A) (by omega)
        generalize (-((y * A + B) + A)) / A = q at hb ⊢
        have e2 : A * q = q * A := Int.mul_comm _ _
        have h1 : ¬ -(y + 1) ≤ q := fun h => by
          have := Int.mul_le_mul_of_nonneg_right h (by omega : 0 ≤ A)
          have e5 : -(y + 1) * A = -(y * A) - A := by grind
          omega
        have h2 : ¬ q ≤ -(y + 3) := fun h => by
          have := Int.mul_le_mul_of_nonneg_right h (by omega : 0 ≤ A)
          have e5 : -(y + 3) * A = -(y * A) - 3 * A := by grind
          omega
        omega
      rw [tF, if_neg (by omega), hq]
      have e6 : (y + 2) * A - ((y * A + B) + A) = A - B := by grind
      rw [e6, ih]
      rfl
    have := tF_rep (P := y * A + B) (R := A) (by omega) (by omega) base (x - 1).toNat
    rw [show (((x - 1).toNat : Int) + 1) = x from by omega, show ((x - 1).toNat : Int) = x - 1 from by omega] at this
    refine ⟨k + 1 + (x - 1).toNat, ?_, by rw [twos, List.length_append, List.length_replicate, List.length_cons]; omega⟩
    rw [twos, e]
    simp only
    rw [show x * (y * A + B) + A - (y * A + B) = (x - 1) * (y * A + B) + A from by grind]
    exact this

/-! ### The way back -/
theorem prim_of' {a b : Int} (h : isPtF a b = true) (hg : Int.gcd a b = 1) : primF a b = true := by
  rw [isPtF_iff] at h
  unfold primF
  rw [gcdF_eq (by omega) (by omega), hg]
  rfl
theorem angF_cont : ∀ (xs : List Int) (p q r s X Y : Int),
    (xs.length % 2 = 1 → angF xs true p q r s = some (X, Y) → X = (cont xs).2 * p + (cont xs).1 * r ∧ Y = (cont xs).2 * q + (cont xs).1 * s) ∧
    (xs.length % 2 = 0 → angF xs false p q r s = some (X, Y) → X = (cont xs).1 * p + (cont xs).2 * r ∧ Y = (cont xs).1 * q + (cont xs).2 * s)
  | [], p, q, r, s, X, Y => by
    refine ⟨fun h => by simp at h, fun _ h => ?_⟩
    simp [angF] at h
    rw [cont]; simp only; omega
  | x :: xs, p, q, r, s, X, Y => by
    constructor
    · intro ho h
      rw [angF] at h
      split at h
      · have ih := (angF_cont xs (p + x * r) (q + x * s) r s X Y).2 (by simp at ho; omega) h
        rw [cont]; simp only
        rw [ih.1, ih.2]
        constructor <;> grind
      · cases h
    · intro ho h
      rw [angF] at h
      split at h
      · have ih := (angF_cont xs p q (r + x * p) (s + x * q) X Y).1 (by simp at ho; omega) h
        rw [cont]; simp only
        rw [ih.1, ih.2]
        constructor <;> grind
      · cases h
theorem angF_pt : ∀ (xs : List Int) (b : Bool) (p q r s X Y : Int), isPtF p q = true → angF xs b p q r s = some (X, Y) → isPtF X Y = true
  | [], b, p, q, r, s, X, Y, hp, h => by simp [angF] at h; rw [← h.1, ← h.2]; exact hp
  | x :: xs, true, p, q, r, s, X, Y, hp, h => by
    rw [angF] at h
    split at h
    · rename_i hc; exact angF_pt xs _ _ _ _ _ X Y hc.2 h
    · cases h
  | x :: xs, false, p, q, r, s, X, Y, hp, h => by
    rw [angF] at h
    split at h
    · exact angF_pt xs _ _ _ _ _ X Y hp h
    · cases h
section
variable {xs : List Int} {X Y : Int}
theorem ang_is (ho : xs.length % 2 = 1) (h : angF xs true 1 0 0 1 = some (X, Y)) : X = (cont xs).2 ∧ Y = (cont xs).1 ∧ isPtF X Y = true := by
  have h1 := (angF_cont xs 1 0 0 1 X Y).1 ho h
  exact ⟨by omega, by omega, angF_pt xs true 1 0 0 1 X Y (isPtF_iff.2 (by omega)) h⟩
/-- The angle of a sequence is one. -/
theorem ang_okS (ho : xs.length % 2 = 1) (hx : ∀ x ∈ xs, 1 ≤ x) (h : angF xs true 1 0 0 1 = some (X, Y)) : AngOk 1 0 X Y := by
  obtain ⟨e1, e2, hp⟩ := ang_is ho h
  have hne : xs ≠ [] := fun e => by rw [e] at ho; simp at ho
  have c := cont_pos hx
  have hg := cont_gcd xs
  have hq := isPtF_iff.1 hp
  have h1 : isPtF 1 0 = true := isPtF_iff.2 (by omega)
  refine ⟨h1, hp, prim_of' h1 (by decide), prim_of' hp (by rw [e1, e2, Int.gcd_comm]; exact hg), ?_⟩
  rw [(det_pt h1 hp).1]; omega
/-- Its turns. -/
theorem ang_turns (ho : xs.length % 2 = 1) (hx : ∀ x ∈ xs, 1 ≤ x) (h : angF xs true 1 0 0 1 = some (X, Y)) : (sailR 1 0 X Y).map (fun r => r.2) = tF 1999 (cont xs).1 ((cont xs).1 - (cont xs).2) := by
  obtain ⟨e1, e2, hp⟩ := ang_is ho h
  have hne : xs ≠ [] := fun e => by rw [e] at ho; simp at ho
  obtain ⟨c1, c2, c3⟩ := cont_pos hx
  have c4 := c3 hne
  have hm := mate_det (a := 1) (b := 0) (isPtF_iff.2 (by omega)) (prim_of' (isPtF_iff.2 (by omega)) (by decide))
  unfold sailR
  rw [sail_tF]
  have hD : p1x 1 0 X Y * Y - p1y 1 0 X Y * X = Y - X := by
    unfold p1x p1y shiftL
    have hy : mateY 1 0 = 1 := by omega
    rw [hy]
    generalize mateX 1 0 = m
    rw [e1, e2]
    have e3 : (m * (cont xs).1 - 1 * (cont xs).2) / (1 * (cont xs).1 - 0 * (cont xs).2) = m - 1 := by
      have hb := ediv_bounds (a := m * (cont xs).1 - 1 * (cont xs).2) (b := 1 * (cont xs).1 - 0 * (cont xs).2) (by omega)
      generalize (m * (cont xs).1 - 1 * (cont xs).2) / (1 * (cont xs).1 - 0 * (cont xs).2) = q at hb ⊢
      generalize (cont xs).1 = A at *
      generalize (cont xs).2 = B at *
      have f1 : (1 * A - 0 * B) * q = q * A := by grind
      rw [f1] at hb
      have k1 : ¬ m ≤ q := fun hh => by
        have := Int.mul_le_mul_of_nonneg_right hh (by omega : 0 ≤ A)
        omega
      have k2 : ¬ q ≤ m - 2 := fun hh => by
        have := Int.mul_le_mul_of_nonneg_right hh (by omega : 0 ≤ A)
        have f2 : (m - 2) * A = m * A - 2 * A := by grind
        omega
      omega
    rw [e3]
    generalize (cont xs).1 = A at *
    generalize (cont xs).2 = B at *
    grind
  rw [hD, e1, e2]
  congr 1
  omega
theorem ang_some (ho : xs.length % 2 = 1) (hx : ∀ x ∈ xs, 1 ≤ x) (h : angF xs true 1 0 0 1 = some (X, Y)) {r : List (Int × Int) × List Int} (hr : sailR 1 0 X Y = some r) : r.2 = twos xs := by
  have e := ang_turns ho hx h
  rw [hr] at e
  obtain ⟨k, h1, h2⟩ := tF_twos _ xs (Nat.le_refl _) ho hx
  have e1 : tF 1999 (cont xs).1 ((cont xs).1 - (cont xs).2) = some r.2 := e.symm
  have e2 := tF_mono _ k e1
  have e3 := tF_mono _ 1999 h1
  rw [Nat.add_comm] at e3
  rw [e2] at e3
  exact Option.some.inj e3
theorem ang_fits (ho : xs.length % 2 = 1) (hx : ∀ x ∈ xs, 1 ≤ x) (h : angF xs true 1 0 0 1 = some (X, Y)) (hl : (twos xs).length + 1 ≤ 1999) : ∃ P, sailR 1 0 X Y = some (P, twos xs) := by
  have e := ang_turns ho hx h
  obtain ⟨k, h1, h2⟩ := tF_twos _ xs (Nat.le_refl _) ho hx
  have e3 := tF_mono _ (1999 - k) h1
  rw [show k + (1999 - k) = 1999 from by omega] at e3
  rw [e3] at e
  cases hr : sailR 1 0 X Y with
  | none => rw [hr] at e; cases e
  | some r => rw [hr] at e; have := Option.some.inj e; exact ⟨r.1, by rw [← this]⟩
end

/-! ### The sequence of a sail -/
section
variable {a b c d : Int}
theorem sail_gcd {u v x y b0 b1 : Int} (h1 : u * y - v * x = 1) (hg : Int.gcd b0 b1 = 1) : Int.gcd (u * b1 - v * b0) (x * b1 - y * b0) = 1 := by
  apply Nat.dvd_one.1
  rw [← hg]
  have g1 := Int.gcd_dvd_left (u * b1 - v * b0) (x * b1 - y * b0)
  have g2 := Int.gcd_dvd_right (u * b1 - v * b0) (x * b1 - y * b0)
  have e0 : b0 = x * (u * b1 - v * b0) - u * (x * b1 - y * b0) := by
    have : x * (u * b1 - v * b0) - u * (x * b1 - y * b0) = b0 * (u * y - v * x) := by grind
    rw [this, h1, Int.mul_one]
  have e1 : b1 = y * (u * b1 - v * b0) - v * (x * b1 - y * b0) := by
    have : y * (u * b1 - v * b0) - v * (x * b1 - y * b0) = b1 * (u * y - v * x) := by grind
    rw [this, h1, Int.mul_one]
  have k0 := Int.dvd_sub (Int.dvd_mul_of_dvd_right (b := x) g1) (Int.dvd_mul_of_dvd_right (b := u) g2)
  have k1 := Int.dvd_sub (Int.dvd_mul_of_dvd_right (b := y) g1) (Int.dvd_mul_of_dvd_right (b := v) g2)
  rw [← e0] at k0
  rw [← e1] at k1
  exact Int.ofNat_dvd.1 (by have := Int.dvd_gcd k0 k1; exact Int.ofNat_dvd.2 this)
structure SeqOk (W : Int) (T : List Int) : Prop where
  len : T.length + 1 ≤ 1999
  two : ∀ x ∈ T, 2 ≤ x
  det : (cont (seqR 0 T)).1 = W
theorem sail_seq (h : AngOk a b c d) {r : List (Int × Int) × List Int} (hr : sailR a b c d = some r) : SeqOk (a * d - b * c) r.2 := by
  have hs := h.start
  have hw := h.w'
  have e : tF 1999 (a * d - b * c) (p1x a b c d * d - p1y a b c d * c) = some r.2 := by
    rw [← sail_tF]
    show (sailR a b c d).map _ = _
    rw [hr]; rfl
  have hg := sail_gcd (u := a) (v := b) (x := p1x a b c d) (y := p1y a b c d) hs.one h.gcd
  have h2 := tF_two _ e hs.d0 hs.dd
  refine ⟨tF_len _ e, h2, ?_⟩
  have hb := tF_back _ e hs.d0 hs.dd hg
  have hx := seqR_pos r.2 0 (by omega)
  have ho := seqR_odd r.2 0
  obtain ⟨k, t1, t2⟩ := tF_twos _ (seqR 0 r.2) (Nat.le_refl _) ho hx
  have tw := twos_seqR r.2 0 h2
  rw [show ((0 : Nat) : Int) = 0 from rfl] at tw
  rw [tw] at t1
  have hne : seqR 0 r.2 ≠ [] := fun e => by rw [e] at ho; simp at ho
  obtain ⟨c1, c2, c3⟩ := cont_pos hx
  have c4 := c3 hne
  have hb2 := tF_back _ t1 (by omega) (by omega) (by
    have hg := cont_gcd (seqR 0 r.2)
    have := gcd_turn 1 (cont (seqR 0 r.2)).2 (cont (seqR 0 r.2)).1
    rw [Int.one_mul, Int.gcd_comm _ (cont (seqR 0 r.2)).1, hg] at this
    exact this)
  have e5 : (List.replicate 0 (2 : Int) ++ r.2) = r.2 := rfl
  rw [e5, hb] at hb2
  exact (congrArg Prod.fst hb2).symm
/-- And back. -/
theorem SeqOk.again {W : Int} {T : List Int} (h : SeqOk W T) {X Y : Int} (ha : angF (seqR 0 T) true 1 0 0 1 = some (X, Y)) : AngOk 1 0 X Y ∧ ∃ P, sailR 1 0 X Y = some (P, T) := by
  have tw := twos_seqR T 0 h.two
  have e5 : (List.replicate 0 (2 : Int) ++ T) = T := rfl
  rw [show ((0 : Nat) : Int) = 0 from rfl, e5] at tw
  have f := ang_fits (seqR_odd T 0) (seqR_pos T 0 (by omega)) ha (by rw [tw]; exact h.len)
  rw [tw] at f
  exact ⟨ang_okS (seqR_odd T 0) (seqR_pos T 0 (by omega)) ha, f⟩
end

/-! ### The places of the vertices -/
def posF : Nat → List Int → List Nat
  | _, [] => []
  | k, c :: T => if c > 2 then k :: posF (k + 1) T else posF (k + 1) T
theorem filt_pos {t : List Int} : ∀ (T : List Int) (k : Nat), 1 ≤ k → k + T.length + 1 = t.length → (∀ i, i < T.length → t.getD (k + i) 0 = T.getD i 0) → (List.range' k T.length).filter (vertP t) = posF k T
  | [], k, hk, hl, h => rfl
  | c :: T, k, hk, hl, h => by
    have h0 := h 0 (by simp)
    have hc : t.getD k 0 = c := by simpa using h0
    have ih := filt_pos (t := t) T (k + 1) (by omega) (by simp at hl; omega) fun i hi => by
      have := h (i + 1) (by simpa using hi)
      rw [show k + 1 + i = k + (i + 1) from by omega, this]; simp
    have hv : vertP t k = decide (c > 2) := by
      unfold vertP
      rw [hc]
      simp only [List.length_cons] at hl
      rw [decide_eq_false (by omega : ¬ k = 0), decide_eq_false (by omega : ¬ k + 1 = t.length)]; rfl
    rw [List.length_cons, List.range'_succ, List.filter_cons, hv, posF, ih]
    by_cases h2 : c > 2
    · rw [decide_eq_true h2, if_pos h2]; rfl
    · rw [decide_eq_false h2, if_neg h2]; rfl
theorem vert_pos (x y : Int) (T : List Int) : vertTo (x :: T ++ [y]) (x :: T ++ [y]).length = 0 :: (posF 1 T ++ [1 + T.length]) := by
  have hl : (x :: T ++ [y]).length = T.length + 1 + 1 := by simp
  rw [hl, vertTo_succ]
  have h1 : vertP (x :: T ++ [y]) (T.length + 1) = true := by
    unfold vertP; rw [hl]; simp
  rw [h1, if_pos rfl]
  have h2 : vertTo (x :: T ++ [y]) (T.length + 1) = 0 :: posF 1 T := by
    unfold vertTo
    rw [List.range_eq_range', List.range'_succ, List.filter_cons]
    have : vertP (x :: T ++ [y]) 0 = true := by unfold vertP; simp
    rw [this, if_pos rfl, Nat.zero_add, filt_pos T 1 (by omega) (by rw [hl]; omega) fun i hi => by
      simp [List.getD_eq_getElem?_getD, Nat.add_comm 1 i, List.getElem?_append_left hi]]
  rw [h2, Nat.add_comm 1 T.length]; rfl
theorem tab_cons (n : Nat) (f : Nat → Int) : tab (n + 1) f = f 0 :: tab n fun i => f (i + 1) := by
  unfold tab
  rw [List.range_succ_eq_map, List.map_cons, List.map_map]; rfl
theorem seqE_cons (t : List Int) (w : Nat) (V : List Nat) (i : Nat) : seqE t (w :: V) (i + 1 + 1) = seqE t V i := by
  unfold seqE
  rw [show (i + 1 + 1) % 2 = i % 2 from by omega, show (i + 1 + 1) / 2 = i / 2 + 1 from by omega]
  rfl
theorem seqL_step (t : List Int) (w k : Nat) {V : List Nat} (hV : V ≠ []) : seqL t (w :: k :: V) = ((k : Int) - w) :: w64 (t.getD k 0 - 2) :: seqL t (k :: V) := by
  obtain ⟨v, V', rfl⟩ : ∃ v V', V = v :: V' := by cases V with | nil => exact absurd rfl hV | cons v V' => exact ⟨v, V', rfl⟩
  unfold seqL
  rw [show 2 * (w :: k :: v :: V').length - 3 = (2 * (k :: v :: V').length - 3) + 1 + 1 from by simp only [List.length_cons]; omega, tab_cons, tab_cons]
  congr 1
  congr 1
  exact tab_congr fun i _ => seqE_cons t w _ i
theorem seqL_R {t : List Int} : ∀ (T : List Int) (k w : Nat), w < k → (∀ i, i < T.length → t.getD (k + i) 0 = T.getD i 0) → (∀ c ∈ T, w64 (c - 2) = c - 2) → seqL t (w :: (posF k T ++ [k + T.length])) = seqR ((k : Int) - 1 - w) T
  | [], k, w, hk, h, hw => by
    rw [seqR]
    show [((k + 0 : Nat) : Int) - (w : Int)] = _
    congr 1; omega
  | c :: T, k, w, hk, h, hw => by
    have h0 := h 0 (by simp)
    have hc : t.getD k 0 = c := by simpa using h0
    have ht : ∀ i, i < T.length → t.getD (k + 1 + i) 0 = T.getD i 0 := fun i hi => by
      have := h (i + 1) (by simpa using hi)
      rw [show k + 1 + i = k + (i + 1) from by omega, this]; simp
    have hw2 : ∀ x ∈ T, w64 (x - 2) = x - 2 := fun x hx => hw x (List.mem_cons_of_mem _ hx)
    rw [posF, seqR]
    rw [show k + (c :: T).length = k + 1 + T.length from by simp only [List.length_cons]; omega]
    split
    · rename_i h2
      have ih := seqL_R T (k + 1) k (by omega) ht hw2
      rw [List.cons_append, seqL_step t w k (by simp), ih, hc, hw c List.mem_cons_self]
      congr 1
      · omega
      · congr 1
        congr 1; omega
    · have ih := seqL_R T (k + 1) w (by omega) ht hw2
      rw [ih]
      congr 1; omega
theorem seqL_is (x y : Int) (T : List Int) (hw : ∀ c ∈ T, w64 (c - 2) = c - 2) : seqL (x :: T ++ [y]) (vertTo (x :: T ++ [y]) (x :: T ++ [y]).length) = seqR 0 T := by
  rw [vert_pos]
  have := seqL_R (t := x :: T ++ [y]) T 1 0 (by omega) (fun i hi => by simp [List.getD_eq_getElem?_getD, Nat.add_comm 1 i, List.getElem?_append_left hi]) hw
  simpa using this
end Go.Ev
end

section
/-
  Sums of corners: the plain law.
  Conditions: none.
-/
set_option linter.unusedVariables false
set_option linter.unusedSimpArgs false
namespace Go.Ev

/-- The fold p, q = c p + q, p, as long as p is a coordinate. -/
def ofGo : List Int → Int → Int → Option (Int × Int)
  | [], p, q => some (p, q)
  | c :: cs, p, q => if isCoordF (w64 (w64 (c * p) + q)) = true then ofGo cs (w64 (w64 (c * p) + q)) p else none
theorem ofGo_app : ∀ (vs ws : List Int) (p q : Int), ofGo (vs ++ ws) p q = (ofGo vs p q).bind fun s => ofGo ws s.1 s.2
  | [], ws, p, q => rfl
  | c :: vs, ws, p, q => by
    rw [List.cons_append, ofGo, ofGo]
    split
    · exact ofGo_app vs ws _ _
    · rfl
theorem isCoordF_iff {n : Int} : isCoordF n = true ↔ -1000000 ≤ n ∧ n ≤ 1000000 := by
  unfold isCoordF inF
  simp only [Bool.and_eq_true, decide_eq_true_eq, ge_iff_le]
theorem ofGo_bd : ∀ (vs : List Int) {p q x y : Int}, (∀ c ∈ vs, -1000001 ≤ c ∧ c ≤ 1000001) → (-1000000 ≤ p ∧ p ≤ 1000000) → (-1000000 ≤ q ∧ q ≤ 1000000) → Int.gcd q p = 1 → ofGo vs p q = some (x, y) →
    (-1000000 ≤ x ∧ x ≤ 1000000) ∧ (-1000000 ≤ y ∧ y ≤ 1000000) ∧ Int.gcd y x = 1
  | [], p, q, x, y, hv, hp, hq, hg, h => by cases h; exact ⟨hp, hq, hg⟩
  | c :: vs, p, q, x, y, hv, hp, hq, hg, h => by
    rw [ofGo] at h
    split at h
    · rename_i hc
      have hc' := isCoordF_iff.1 hc
      have hb := hv c (by simp)
      have hm := mul_abs (x := c) (y := p) (m := 1000001) (n := 1000000) hb.1 hb.2 hp.1 hp.2 (by omega)
      have e1 : w64 (c * p) = c * p := w64_in (by omega) (by omega)
      have e2 : w64 (c * p + q) = c * p + q := w64_in (by omega) (by omega)
      rw [e1, e2] at h hc'
      refine ofGo_bd vs (fun d hd => hv d (by simp [hd])) hc' hp ?_ h
      rw [Int.gcd_comm, Int.add_comm, Int.gcd_add_mul_right_left]
      exact hg
    · cases h

theorem expL_bd : ∀ (k : Nat) {p q : Int}, q.toNat ≤ k → 0 ≤ p → p ≤ 1000000 → q ≤ 1000000 → ∀ c ∈ expL p q, 0 ≤ c ∧ c ≤ 1000000
  | 0, p, q, hk, h1, h2, h3, c, hc => by rw [expL_zero (by omega)] at hc; cases hc
  | k + 1, p, q, hk, h1, h2, h3, c, hc => by
    by_cases hq : 0 < q
    · rw [expL_step hq] at hc
      have hm1 := Int.emod_nonneg p (show q ≠ 0 by omega)
      have hm2 := Int.emod_lt_of_pos p hq
      rcases List.mem_cons.1 hc with rfl | hc
      · have := ediv_abs (a := p) (b := q) (m := 1000000) hq (by omega) h2
        have h0 := Int.ediv_nonneg h1 (show 0 ≤ q by omega)
        omega
      · exact expL_bd k (by omega) (by omega) h3 (by omega) c hc
    · rw [expL_zero hq] at hc; cases hc
theorem longL_bd {xs : List Int} (h : ∀ c ∈ xs, 0 ≤ c ∧ c ≤ 1000000) : ∀ c ∈ longL xs, -1000001 ≤ c ∧ c ≤ 1000001 := by
  intro c hc
  unfold longL at hc
  split at hc
  · have := h c hc; omega
  · rcases List.mem_append.1 hc with hc | hc
    · have := h c (List.mem_of_mem_take hc); omega
    · have hl : 0 ≤ xs.getD (xs.length - 1) 0 ∧ xs.getD (xs.length - 1) 0 ≤ 1000000 := by
        rcases Nat.lt_or_ge (xs.length - 1) xs.length with h1 | h1
        · exact h _ (getD_mem h1)
        · have : xs = [] := List.length_eq_zero_iff.1 (by omega)
          subst this
          exact ⟨by decide, by decide⟩
      rcases List.mem_cons.1 hc with rfl | hc
      · rw [w64_in (by omega) (by omega)]; omega
      · rw [List.mem_singleton] at hc; subst hc; omega
theorem corn_long {a b c d : Int} (h : isCornF a b c d = true) (h2 : bigF a b c d = false) : ∀ x ∈ longL (expL (sineF a b c d) (cosF a b c d)), -1000001 ≤ x ∧ x ≤ 1000001 := by
  have h3 := (corn_exp h h2).1
  have h4 := sine_corn h
  exact longL_bd (expL_bd _ (Nat.le_refl _) (by omega) h3.hi h3.b1)

/-- The corner that is made of a list's fold. -/
theorem go_corn {vs : List Int} {p q : Int} (hv : ∀ c ∈ vs, -1000001 ≤ c ∧ c ≤ 1000001) (h : ofGo vs 1 0 = some (p, q)) (hp : ¬ p = 0) : isCornF 1 0 q p = true := by
  obtain ⟨h1, h2, h3⟩ := ofGo_bd vs hv (by omega) (by omega) (by decide) h
  have hdet : detF 1 0 q p = p := by
    unfold detF
    rw [Int.one_mul, Int.zero_mul, w64_in (n := p) (by omega) (by omega), w64_in (n := 0) (by omega) (by omega), Int.sub_zero, w64_in (by omega) (by omega)]
  have hpt : isPtF q p = true := isPtF_iff.2 (by omega)
  have hpr : primF q p = true := by
    unfold primF
    rw [gcdF_eq (by omega) (by omega), h3]; rfl
  unfold isCornF
  rw [hdet, hpt, hpr, show isPtF 1 0 = true from isPtF_iff.2 (by omega), show primF 1 0 = true by unfold primF; rw [gcdF_eq (by omega) (by omega)]; rfl, decide_eq_false hp]
  rfl

/-- The list of a sum. -/
def sumL (xs ys : List Int) (n : Int) : List Int := xs ++ [n] ++ ys
theorem sum_corn {a b c d e f g i n p q : Int} (h : isCornF a b c d = true) (h2 : bigF a b c d = false) (k : isCornF e f g i = true) (k2 : bigF e f g i = false) (hn : isCoordF n = true)
    (hgo : ofGo (sumL (longL (expL (sineF a b c d) (cosF a b c d))) (longL (expL (sineF e f g i) (cosF e f g i))) n).reverse 1 0 = some (p, q)) (hp : ¬ p = 0) : isCornF 1 0 q p = true := by
  refine go_corn (fun x hx => ?_) hgo hp
  rw [List.mem_reverse] at hx
  unfold sumL at hx
  rw [isCoordF_iff] at hn
  simp only [List.mem_append, List.mem_singleton] at hx
  rcases hx with (hx | hx) | hx
  · exact corn_long h h2 x hx
  · omega
  · exact corn_long k k2 x hx

/-! ## The reference's loop -/

/-- i: the index of the number that comes next; p, q: the fold of those behind it. -/
structure OfI (xs : List Int) (i p q : Int) : Prop where
  lo : -1 ≤ i
  hi : i < (xs.length : Int)
  eq : ofGo (xs.take (i + 1).toNat).reverse p q = ofGo xs.reverse 1 0
section
variable {xs : List Int} {i p q : Int}
theorem OfI.start (xs : List Int) (h : xs.length ≤ 1048576) : OfI xs (w64 ((xs.length : Int) - 1)) 1 0 := by
  rw [w64_in (by omega) (by omega)]
  refine ⟨by omega, by omega, ?_⟩
  rw [show ((xs.length : Int) - 1 + 1).toNat = xs.length by omega, List.take_length]
theorem OfI.take (h : OfI xs i p q) (h0 : i ≥ 0) : (xs.take (i + 1).toNat).reverse = xs.getD i.toNat 0 :: (xs.take i.toNat).reverse := by
  have := h.hi
  rw [show (i + 1).toNat = i.toNat + 1 by omega, take_succ_getD (d := 0) (by omega), List.reverse_append]; rfl
theorem OfI.next (h : OfI xs i p q) (hl : xs.length ≤ 1048576) (h0 : decide (i ≥ 0) = true) (hc : isCoordF (w64 (w64 (xs.getD i.toNat 0 * p) + q)) = true) : OfI xs (w64 (i - 1)) (w64 (w64 (xs.getD i.toNat 0 * p) + q)) p := by
  have h1 := of_decide_eq_true h0
  have h2 := h.hi
  rw [w64_in (n := i - 1) (by omega) (by omega)]
  refine ⟨by omega, by omega, ?_⟩
  rw [← h.eq, h.take h1, ofGo, if_pos hc, show i - 1 + 1 = i by omega]
theorem OfI.stop (h : OfI xs i p q) (h0 : decide (i ≥ 0) = true) (hc : isCoordF (w64 (w64 (xs.getD i.toNat 0 * p) + q)) = false) : ofGo xs.reverse 1 0 = none := by
  rw [← h.eq, h.take (of_decide_eq_true h0), ofGo, hc]; rfl
theorem OfI.fin (h : OfI xs i p q) (h0 : decide (i ≥ 0) = false) : ofGo xs.reverse 1 0 = some (p, q) := by
  have h1 := of_decide_eq_false h0
  have h2 := h.lo
  rw [← h.eq, show (i + 1).toNat = 0 by omega]; rfl
theorem OfI.mu (h : OfI xs i p q) (hl : xs.length ≤ 1048576) (h0 : decide (i ≥ 0) = true) : (w64 (i - 1) + 1).toNat < (i + 1).toNat := by
  have h1 := of_decide_eq_true h0
  have h2 := h.hi
  rw [w64_in (by omega) (by omega)]; omega
end

end Go.Ev
end

section
/-
  Sequences of angles, what the program's functions answer: one case with a sequence, one without. The plain law.
  Conditions: none.
-/
set_option linter.unusedVariables false
set_option linter.unusedSimpArgs false
namespace Go.Ev
open Go.RowKit

/-! ### Continuants and bounds -/
theorem cont_le : ∀ {xs : List Int}, (∀ x ∈ xs, 1 ≤ x) → ∀ x ∈ xs, x ≤ (cont xs).1
  | [], _, _, h => by cases h
  | y :: ys, h, x, hx => by
    have hy : ∀ z ∈ ys, 1 ≤ z := fun z hz => h z (List.mem_cons_of_mem _ hz)
    have h0 := h y (List.mem_cons_self ..)
    obtain ⟨p1, p2, _⟩ := cont_pos hy
    have ih := cont_le hy
    show x ≤ y * (cont ys).1 + (cont ys).2
    have m1 : y * 1 ≤ y * (cont ys).1 := Int.mul_le_mul_of_nonneg_left p1 (by omega)
    have m2 : 1 * (cont ys).1 ≤ y * (cont ys).1 := Int.mul_le_mul_of_nonneg_right h0 (by omega)
    rcases List.mem_cons.1 hx with rfl | hx
    · omega
    · have := ih x hx; omega
theorem seqR_mem : ∀ (T : List Int) (n : Int) (c : Int), c ∈ T → 2 < c → c - 2 ∈ seqR n T
  | [], _, _, h, _ => by cases h
  | t :: T, n, c, h, h2 => by
    unfold seqR
    rcases List.mem_cons.1 h with rfl | h
    · rw [if_pos (by omega)]
      exact List.mem_cons_of_mem _ (List.mem_cons_self ..)
    · split
      · exact List.mem_cons_of_mem _ (List.mem_cons_of_mem _ (seqR_mem T _ c h h2))
      · exact seqR_mem T _ c h h2

/-! ### The sail of two points -/
structure SailG (a b c d : Int) (T : List Int) : Prop where
  ok : AngOk a b c d
  sail : ∃ P, sailR a b c d = some (P, T)
section
variable {a b c d : Int} {T : List Int}
theorem SailG.seq (h : SailG a b c d T) : SeqOk (a * d - b * c) T := by
  obtain ⟨P, hp⟩ := h.sail
  exact sail_seq h.ok hp
theorem SailG.w (h : SailG a b c d T) : detF a b c d = a * d - b * c ∧ 1 ≤ a * d - b * c ∧ a * d - b * c ≤ 2000000000000 := by
  have h1 := h.ok.w'
  have h2 := h.ok.ca; have h3 := h.ok.cb
  have e : detF a b c d = a * d - b * c := (det_pt h2 h3).1
  refine ⟨e, h1, ?_⟩
  rw [isPtF_iff] at h2 h3
  have b1 := mul_abs (x := a) (y := d) (m := 1000000) (n := 1000000) (by omega) (by omega) (by omega) (by omega) (by omega)
  have b2 := mul_abs (x := b) (y := c) (m := 1000000) (n := 1000000) (by omega) (by omega) (by omega) (by omega) (by omega)
  omega
theorem SailG.w64 (h : SailG a b c d T) : ∀ x ∈ T, Go.Ev.w64 (x - 2) = x - 2 := fun x hx => by
  have hs := h.seq
  have h2 := hs.two x hx
  have hw := h.w
  by_cases h3 : x = 2
  · subst h3; decide
  · have := cont_le (seqR_pos T 0 (by omega)) _ (seqR_mem T 0 x hx (by omega))
    rw [hs.det] at this
    exact w64_in (by omega) (by omega)
theorem SailG.list (h : SailG a b c d T) : seqL (0 :: T ++ [0]) (vts (0 :: T ++ [0])) = seqR 0 T := seqL_is 0 0 T h.w64
theorem SailG.list2 (h : SailG a b c d T) : seqL (2 :: T ++ [2]) (vts (2 :: T ++ [2])) = seqR 0 T := seqL_is 2 2 T h.w64
theorem SailG.t (h : SailG a b c d T) (t : Int) : ∃ P, sailT a b c d t = some (P, t :: T) := by
  obtain ⟨P, hp⟩ := h.sail
  exact ⟨(a, b) :: P, by unfold sailT; rw [hp]; rfl⟩
theorem SailG.len (h : SailG a b c d T) {P : List (Int × Int)} {t : Int} (hp : sailT a b c d t = some (P, t :: T)) : P.length = T.length + 2 := by
  rw [sailT_len hp]; simp
/-! ### The angle of a sequence -/
def anB (xs : List Int) : Bool := decide (xs.length % 2 = 1) && decide (xs.length ≤ 60) && !xs.any lowP
def anO (xs : List Int) : Option (Int × Int) := if anB xs = true then angF xs true 1 0 0 1 else none
def anE (xs : List Int) : Int := if anB xs = true then 3 else 2
theorem anE_nz (xs : List Int) : decide (anE xs = 0) = false := by
  unfold anE; split <;> rfl
theorem anB_iff (xs : List Int) : anB xs = true ↔ xs.length % 2 = 1 ∧ xs.length ≤ 60 ∧ xs.any lowP = false := by
  simp [anB, and_assoc]
theorem low_pos {xs : List Int} (h : xs.any lowP = false) : ∀ x ∈ xs, 1 ≤ x := fun x hx => by
  have := List.any_eq_false.1 h x hx
  simp only [lowP, decide_eq_true_eq] at this
  omega
theorem anO_some {xs : List Int} {X Y : Int} (h : anO xs = some (X, Y)) : xs.length % 2 = 1 ∧ xs.length ≤ 60 ∧ xs.any lowP = false ∧ angF xs true 1 0 0 1 = some (X, Y) := by
  unfold anO at h
  split at h
  · rename_i hb
    rw [anB_iff] at hb
    exact ⟨hb.1, hb.2.1, hb.2.2, h⟩
  · cases h
theorem SailG.again {X Y : Int} (h : SailG a b c d T) (ha : anO (seqR 0 T) = some (X, Y)) : SailG 1 0 X Y T := by
  obtain ⟨_, _, _, k⟩ := anO_some ha
  obtain ⟨h1, h2⟩ := h.seq.again k
  exact ⟨h1, h2⟩
theorem SailG.back {ys : List Int} {X Y : Int} (ha : anO ys = some (X, Y)) (h : SailG 1 0 X Y T) : seqR 0 T = ys := by
  obtain ⟨k1, k2, k3, k4⟩ := anO_some ha
  obtain ⟨P, hp⟩ := h.sail
  have hx := low_pos k3
  have e : T = twos ys := ang_some k1 hx k4 hp
  rw [e]
  exact seqR_twos _ ys (Nat.le_refl _) k1 hx
theorem an_em (xs : List Int) : (∃ X Y, anO xs = some (X, Y)) ∨ anO xs = none := by
  cases h : anO xs with
  | none => exact .inr rfl
  | some r => exact .inl ⟨r.1, r.2, rfl⟩

/-! ### The fraction of a list -/
def frG : List Int → Int → Int → Option (Int × Int)
  | [], p, q => some (p, q)
  | c :: cs, p, q => if (isCoordF (w64 (w64 (c * p) + q)) && isCoordF p) = true then frG cs (w64 (w64 (c * p) + q)) p else none
def frB (xs : List Int) : Bool := decide (1 ≤ xs.length) && decide (xs.length ≤ 60) && xs.all isCoordF && !(xs.drop 1).any lowP
def frV (xs : List Int) : Int × Int × Int := if frB xs = true then (match frG xs.reverse 1 0 with | none => (0, 0, 3) | some (p, q) => (p, q, 0)) else (0, 0, 2)
theorem frG_app : ∀ (vs ws : List Int) (p q : Int), frG (vs ++ ws) p q = (frG vs p q).bind fun s => frG ws s.1 s.2
  | [], ws, p, q => rfl
  | c :: vs, ws, p, q => by
    rw [List.cons_append, frG, frG]
    split
    · exact frG_app vs ws _ _
    · rfl
theorem frG_cont : ∀ (ys : List Int), (∀ x ∈ ys, isCoordF x = true) → ∀ {P Q : Int}, frG ys.reverse 1 0 = some (P, Q) → cont ys = (P, Q) ∧ isCoordF P = true ∧ isCoordF Q = true
  | [], _, P, Q, h => by
    rw [List.reverse_nil, frG] at h
    cases h; exact ⟨rfl, by decide, by decide⟩
  | c :: cs, hc, P, Q, h => by
    rw [List.reverse_cons, frG_app] at h
    cases h1 : frG cs.reverse 1 0 with
    | none => rw [h1] at h; cases h
    | some s =>
      obtain ⟨p, q⟩ := s
      obtain ⟨e, h2, h3⟩ := frG_cont cs (fun x hx => hc x (List.mem_cons_of_mem _ hx)) h1
      rw [h1] at h
      simp only [Option.bind_some, frG] at h
      split at h
      · rename_i hk
        rw [Bool.and_eq_true] at hk
        have hc0 := hc c (List.mem_cons_self ..)
        rw [isCoordF_iff] at h2 h3 hc0
        have bd := mul_abs (x := c) (y := p) (m := 1000000) (n := 1000000) (by omega) (by omega) (by omega) (by omega) (by omega)
        have e1 : w64 (w64 (c * p) + q) = c * p + q := by
          rw [w64_in (n := c * p) (by omega) (by omega), w64_in (by omega) (by omega)]
        rw [e1] at h hk
        simp only [Option.some.injEq, Prod.mk.injEq] at h
        obtain ⟨rfl, rfl⟩ := h
        exact ⟨by rw [cont, e], hk.1, hk.2⟩
      · cases h
theorem frV_cont {xs : List Int} (h : (frV xs).2.2 = 0) : (frV xs).1 = (cont xs).1 := by
  unfold frV at h ⊢
  by_cases hb : frB xs = true
  · rw [if_pos hb] at h ⊢
    cases hg : frG xs.reverse 1 0 with
    | none => rw [hg] at h; cases h
    | some s =>
      obtain ⟨p, q⟩ := s
      have hc : ∀ x ∈ xs, isCoordF x = true := by
        simp only [frB, Bool.and_eq_true] at hb
        exact List.all_eq_true.1 hb.1.2
      rw [(frG_cont xs hc hg).1]
  · rw [if_neg hb] at h; cases h
theorem SailG.det (h : SailG a b c d T) (h0 : (frV (seqR 0 T)).2.2 = 0) : (frV (seqR 0 T)).1 = detF a b c d := by
  rw [frV_cont h0, h.seq.det, h.w.1]
theorem SailG.odd (h : SailG a b c d T) : (seqR 0 T).length % 2 = 1 := seqR_odd T 0
end

/-! ### The drawn list -/
structure DsI (k0 k : Int) (X : List Int) (S : List Value) (q e : Nat) : Prop where
  row : Row (il X) S q e 1
  sum : (q : Int) + k = k0
  k1 : 0 ≤ k
  b1 : 1 ≤ k0
  b7 : k0 ≤ 15
  odd : k0 % 2 = 1
section
variable {k0 k v : Int} {X : List Int} {S S' : List Value} {q e e' : Nat}
theorem DsI.start {x : Int} (h : 0 ≤ x ∧ x < 8) : DsI (w64 (1 + w64 (2 * x))) (w64 (1 + w64 (2 * x))) [] [] 0 0 := by
  rw [w64_in (n := 2 * x) (by omega) (by omega), w64_in (by omega) (by omega)]
  exact ⟨Row.lit rfl rfl, by simp, by omega, by omega, by omega, by omega⟩
theorem DsI.next (h : DsI k0 k X S q e) (hk : decide (k > 0) = true) (hr : Row (il X ++ [iv v]) S' (q + 1) e' 1) : DsI k0 (w64 (k - 1)) (X ++ [v]) S' (q + 1) e' := by
  have := of_decide_eq_true hk
  have h1 := h.sum
  have h2 := h.b7
  rw [w64_in (by omega) (by omega)]
  exact ⟨by rw [show il (X ++ [v]) = il X ++ [iv v] by simp [il]]; exact hr, by omega, by omega, h.b1, h2, h.odd⟩
theorem DsI.mu (h : DsI k0 k X S q e) (hk : decide (k > 0) = true) : (w64 (k - 1)).toNat < k.toNat := by
  have := of_decide_eq_true hk
  have h1 := h.sum
  have h2 := h.b7
  rw [w64_in (by omega) (by omega)]; omega
theorem DsI.bd (h : DsI k0 k X S q e) : q ≤ 15 := by
  have := h.sum; have := h.b7; have := h.k1; omega
theorem DsI.fin (h : DsI k0 k X S q e) (hk : decide (k > 0) = false) : 1 ≤ q ∧ q % 2 = 1 := by
  have := of_decide_eq_false hk
  have := h.sum; have := h.b1; have := h.k1; have := h.odd; omega
theorem row_set0 (h : Row (il X) S q e 1) (v : Int) : Row (il (X.set 0 v)) S q e 1 := by
  have hl : (il (X.set 0 v)).length = (il X).length := by simp [il]
  exact ⟨by rw [hl]; exact h.len, by rw [hl]; exact h.cap, il_plain _, h.ps⟩
end
end Go.Ev
end
