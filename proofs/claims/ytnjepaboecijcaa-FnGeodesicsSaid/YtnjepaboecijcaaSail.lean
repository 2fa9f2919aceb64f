/-
  Mates have the determinant 1; sails: the plain law.
  Conditions: none.
-/
import Derived.Test.YtnjepaboecijcaaList
import Derived.Test.YtnjepaboecijcaaCorn
set_option linter.unusedVariables false
set_option linter.unusedSimpArgs false
namespace Go.Ev
open Go.RowKit

/-! ## The factor that 'bezout' finds -/

theorem gcd_emod' (a m : Int) : Int.gcd (a % m) m = Int.gcd a m := by
  have := Int.gcd_add_mul_left_left m (a % m) (a / m)
  rw [Int.emod_add_mul_ediv] at this
  exact this.symm

theorem bezL_mul {a m : Int} : ∀ (n : Nat) (r s x y : Int), s.natAbs ≤ n → 0 ≤ r → 0 ≤ s → m ∣ a * x - r → m ∣ a * y - s → m ∣ a * bezL r s x y - (Int.gcd r s : Int)
  | 0, r, s, x, y, hn, hr, hs, h1, h2 => by
    have : s = 0 := by omega
    subst this
    rw [bezL_zero, Int.gcd_zero_right, Int.natAbs_of_nonneg hr]
    exact h1
  | n + 1, r, s, x, y, hn, hr, hs, h1, h2 => by
    by_cases h0 : s = 0
    · subst h0
      rw [bezL_zero, Int.gcd_zero_right, Int.natAbs_of_nonneg hr]
      exact h1
    · rw [bezL_step h0]
      have e1 : r.tmod s = r % s := tmod_pos hr
      have e2 : r.tdiv s = r / s := tdiv_pos hr
      have h3 := Int.emod_lt_of_pos r (show 0 < s by omega)
      have h4 := Int.emod_nonneg r h0
      have h5 := Int.emod_add_mul_ediv r s
      have hg : Int.gcd r s = Int.gcd s (r % s) := by
        rw [Int.gcd_comm s, gcd_emod']
      rw [e1, e2, hg]
      refine bezL_mul n s (r % s) y (x - r / s * y) (by omega) hs h4 h2 ?_
      have : a * (x - r / s * y) - r % s = (a * x - r) - r / s * (a * y - s) := by
        have : r % s = r - s * (r / s) := by omega
        rw [this]
        grind
      rw [this]
      exact Int.dvd_sub h1 (Int.dvd_mul_of_dvd_right h2)

theorem bez_mul {a m : Int} (h : BezOk a m) (hg : Int.gcd a m = 1) : m ∣ a * bezF a m - 1 := by
  have h0 := h.pos
  have h1 := Int.emod_nonneg a (show m ≠ 0 by omega)
  have := bezL_mul (a := a) (m := m) m.natAbs (a % m) m 1 0 (Nat.le_refl _) h1 (by omega)
    (by rw [Int.mul_one]; exact ⟨a / m, by have := Int.emod_add_mul_ediv a m; omega⟩) ⟨-1, by rw [Int.mul_zero, Int.mul_neg, Int.mul_one]; omega⟩
  have hgg : Int.gcd (a % m) m = 1 := by rw [gcd_emod']; exact hg
  rw [hgg] at this
  exact this

theorem prim_gcd {a b : Int} (h : isPtF a b = true) (hp : primF a b = true) : Int.gcd a b = 1 := by
  rw [isPtF_iff] at h
  have h1 := gcdF_eq (a := a) (b := b) (by omega) (by omega)
  simp only [primF, decide_eq_true_eq] at hp
  rw [hp] at h1
  omega

theorem mate_det {a b : Int} (h : isPtF a b = true) (hp : primF a b = true) : a * mateY a b - b * mateX a b = 1 := by
  have hg := prim_gcd h hp
  by_cases ha : a = 0
  · subst ha
    rw [Int.gcd_zero_left] at hg
    simp only [mateX, mateY, if_true]
    rcases (show b = 1 ∨ b = -1 by omega) with rfl | rfl <;> decide
  · have hb := bez_mul (pt_bez h ha) (by
      have e : Int.gcd b (a.natAbs : Int) = Int.gcd b a := by simp [Int.gcd]
      rw [e, Int.gcd_comm]; exact hg)
    have hd : a ∣ 1 + b * mateX a b := by
      have h1 : (a.natAbs : Int) ∣ 1 + b * mateX a b := by
        simp only [mateX, ha, if_false]
        have h2 := Int.emod_add_mul_ediv (-(bezF b a.natAbs)) (a.natAbs : Int)
        obtain ⟨k, hk⟩ := hb
        refine ⟨-k - b * ((-(bezF b a.natAbs)) / (a.natAbs : Int)), ?_⟩
        generalize (-(bezF b a.natAbs)) % (a.natAbs : Int) = r at *
        generalize (-(bezF b a.natAbs)) / (a.natAbs : Int) = q at *
        generalize (a.natAbs : Int) = m at *
        generalize bezF b m = f at *
        have : r = -f - m * q := by omega
        rw [this]
        have h3 : 1 = b * f - m * k := by omega
        rw [Int.mul_sub m]
        grind
      exact Int.natAbs_dvd.1 h1
    have : a * mateY a b = 1 + b * mateX a b := by
      simp only [mateY, ha, if_false]
      exact Int.mul_tdiv_cancel' hd
    omega

/-! ## Sails -/

/-- Two points of a sail, one behind the other: (u, v) and (x, y). -/
structure SailI (a0 a1 b0 b1 u v x y : Int) : Prop where
  one : u * y - v * x = 1
  d0 : 0 ≤ x * b1 - y * b0
  dd : x * b1 - y * b0 < u * b1 - v * b0
  e0 : 0 ≤ a0 * v - a1 * u
  ee : a0 * v - a1 * u < a0 * y - a1 * x
  ca : isPtF a0 a1 = true
  cb : isPtF b0 b1 = true
  w : 0 < a0 * b1 - a1 * b0
  cu : isPtF u v = true

section
variable {a0 a1 b0 b1 u v x y : Int}

theorem det_split (a0 a1 b0 b1 u v x y : Int) : (a0 * b1 - a1 * b0) * (u * y - v * x) = (a0 * y - a1 * x) * (u * b1 - v * b0) - (a0 * v - a1 * u) * (x * b1 - y * b0) := by grind
theorem coord_split (a0 a1 b0 b1 x y : Int) : (a0 * b1 - a1 * b0) * x = (x * b1 - y * b0) * a0 + (a0 * y - a1 * x) * b0 ∧ (a0 * b1 - a1 * b0) * y = (x * b1 - y * b0) * a1 + (a0 * y - a1 * x) * b1 := ⟨by grind, by grind⟩

theorem SailI.sum (h : SailI a0 a1 b0 b1 u v x y) : (x * b1 - y * b0) + (a0 * y - a1 * x) ≤ a0 * b1 - a1 * b0 := by
  have h1 := det_split a0 a1 b0 b1 u v x y
  rw [h.one, Int.mul_one] at h1
  have h2 := h.d0; have h3 := h.dd; have h4 := h.e0; have h5 := h.ee
  generalize x * b1 - y * b0 = D at *
  generalize a0 * y - a1 * x = E at *
  generalize u * b1 - v * b0 = D' at *
  generalize a0 * v - a1 * u = E' at *
  rw [h1]
  have e1 : E * (D + 1) ≤ E * D' := Int.mul_le_mul_of_nonneg_left (by omega) (by omega)
  have e2 : E' * D ≤ (E - 1) * D := Int.mul_le_mul_of_nonneg_right (by omega) h2
  rw [Int.mul_add, Int.mul_one] at e1
  rw [Int.sub_mul, Int.one_mul] at e2
  omega

theorem le_of_scaled {W x D E p q : Int} (hw : 0 < W) (h : W * x = D * p + E * q) (hD : 0 ≤ D) (hE : 0 ≤ E) (hs : D + E ≤ W) (hp1 : -1000000 ≤ p) (hp2 : p ≤ 1000000) (hq1 : -1000000 ≤ q) (hq2 : q ≤ 1000000) : -1000000 ≤ x ∧ x ≤ 1000000 := by
  have e1 : D * p ≤ D * 1000000 := Int.mul_le_mul_of_nonneg_left hp2 hD
  have e2 : E * q ≤ E * 1000000 := Int.mul_le_mul_of_nonneg_left hq2 hE
  have e3 : D * (-1000000) ≤ D * p := Int.mul_le_mul_of_nonneg_left hp1 hD
  have e4 : E * (-1000000) ≤ E * q := Int.mul_le_mul_of_nonneg_left hq1 hE
  constructor
  · rcases (by omega : x < -1000000 ∨ -1000000 ≤ x) with h5 | h5
    · have : W * x ≤ W * (-1000001) := Int.mul_le_mul_of_nonneg_left (by omega) (by omega)
      omega
    · exact h5
  · rcases (by omega : x > 1000000 ∨ x ≤ 1000000) with h5 | h5
    · have : W * 1000001 ≤ W * x := Int.mul_le_mul_of_nonneg_left (by omega) (by omega)
      omega
    · exact h5

theorem SailI.pt (h : SailI a0 a1 b0 b1 u v x y) : isPtF x y = true := by
  have h1 := coord_split a0 a1 b0 b1 x y
  have h2 := isPtF_iff.1 h.ca
  have h3 := isPtF_iff.1 h.cb
  have hs := h.sum
  have h4 := h.e0; have h5 := h.ee
  rw [isPtF_iff]
  exact ⟨le_of_scaled h.w h1.1 h.d0 (by omega) hs h2.1.1 h2.1.2 h3.1.1 h3.1.2, le_of_scaled h.w h1.2 h.d0 (by omega) hs h2.2.1 h2.2.2 h3.2.1 h3.2.2⟩

/-- The turn at (x, y). -/
def turnL (b0 b1 u v x y : Int) : Int := -((-(u * b1 - v * b0)) / (x * b1 - y * b0))

theorem SailI.turn (h : SailI a0 a1 b0 b1 u v x y) (hd : x * b1 - y * b0 ≠ 0) :
    2 ≤ turnL b0 b1 u v x y ∧ turnL b0 b1 u v x y ≤ 2000000000000 ∧ SailI a0 a1 b0 b1 x y (turnL b0 b1 u v x y * x - u) (turnL b0 b1 u v x y * y - v) := by
  have h2 := h.d0; have h3 := h.dd; have h4 := h.e0; have h5 := h.ee; have h6 := h.one
  have hu := isPtF_iff.1 h.cu
  have hb := isPtF_iff.1 h.cb
  have hD' : u * b1 - v * b0 ≤ 2000000000000 := by
    have := mul_abs (x := u) (y := b1) (m := 1000000) (n := 1000000) (by omega) (by omega) (by omega) (by omega) (by omega)
    have := mul_abs (x := v) (y := b0) (m := 1000000) (n := 1000000) (by omega) (by omega) (by omega) (by omega) (by omega)
    omega
  have hb1 := ediv_bounds (a := -(u * b1 - v * b0)) (b := x * b1 - y * b0) (by omega)
  have hpt := h.pt
  have hc : turnL b0 b1 u v x y = -((-(u * b1 - v * b0)) / (x * b1 - y * b0)) := rfl
  have key : ∀ c : Int, (c * x - u) * b1 - (c * y - v) * b0 = c * (x * b1 - y * b0) - (u * b1 - v * b0) := fun c => by grind
  have key2 : ∀ c : Int, a0 * (c * y - v) - a1 * (c * x - u) = c * (a0 * y - a1 * x) - (a0 * v - a1 * u) := fun c => by grind
  have key3 : ∀ c : Int, x * (c * y - v) - y * (c * x - u) = u * y - v * x := fun c => by grind
  generalize turnL b0 b1 u v x y = c at *
  have hc2 : 2 ≤ c := by
    rcases (by omega : c ≤ 1 ∨ 2 ≤ c) with hc1 | hc1
    · have : (x * b1 - y * b0) * (-1) ≤ (x * b1 - y * b0) * ((-(u * b1 - v * b0)) / (x * b1 - y * b0)) := Int.mul_le_mul_of_nonneg_left (by omega) h2
      omega
    · exact hc1
  have hcD : (x * b1 - y * b0) * ((-(u * b1 - v * b0)) / (x * b1 - y * b0)) = -(c * (x * b1 - y * b0)) := by
    rw [hc, Int.neg_mul, Int.neg_neg, Int.mul_comm]
  refine ⟨hc2, ?_, ⟨by rw [key3]; exact h6, by rw [key]; omega, by rw [key]; omega, by omega, ?_, h.ca, h.cb, h.w, hpt⟩⟩
  · rcases (by omega : 2000000000000 < c ∨ c ≤ 2000000000000) with hc1 | hc1
    · have : (c - 1) * 1 ≤ (c - 1) * (x * b1 - y * b0) := Int.mul_le_mul_of_nonneg_left (by omega) (by omega)
      rw [Int.mul_one, Int.sub_mul, Int.one_mul] at this
      omega
    · exact hc1
  · rw [key2]
    have : 2 * (a0 * y - a1 * x) ≤ c * (a0 * y - a1 * x) := Int.mul_le_mul_of_nonneg_right hc2 (by omega)
    omega

/-- The sail ends where the determinant with b is 0. -/
theorem SailI.last (h : SailI a0 a1 b0 b1 u v x y) (hp : Int.gcd b0 b1 = 1) : x * b1 - y * b0 = 0 ↔ (x = b0 ∧ y = b1) := by
  constructor
  · intro hd
    have h1 := det_split a0 a1 b0 b1 u v x y
    rw [h.one, hd, Int.mul_one, Int.mul_zero, Int.sub_zero] at h1
    have h2 := coord_split a0 a1 b0 b1 x y
    rw [hd, Int.zero_mul, Int.zero_mul, Int.zero_add, Int.zero_add] at h2
    have h5 := h.ee; have h4 := h.e0; have h6 := h.dd; have hw := h.w
    generalize a0 * y - a1 * x = E at *
    generalize u * b1 - v * b0 = d at *
    generalize a0 * b1 - a1 * b0 = W at *
    rw [h1] at h2
    have e1 : d * x = b0 := Int.eq_of_mul_eq_mul_left (show E ≠ 0 by omega) (by rw [← Int.mul_assoc]; exact h2.1)
    have e2 : d * y = b1 := Int.eq_of_mul_eq_mul_left (show E ≠ 0 by omega) (by rw [← Int.mul_assoc]; exact h2.2)
    have hdv : (d.natAbs : Int) ∣ 1 := by
      have g1 : (d.natAbs : Int) ∣ b0 := Int.natAbs_dvd.2 ⟨x, e1.symm⟩
      have g2 : (d.natAbs : Int) ∣ b1 := Int.natAbs_dvd.2 ⟨y, e2.symm⟩
      have := Int.dvd_gcd g1 g2
      rw [hp] at this
      exact Int.natCast_dvd_natCast.2 this
    have : d = 1 := by
      have := Int.le_of_dvd (by omega) hdv
      omega
    subst this
    exact ⟨by omega, by omega⟩
  · rintro ⟨rfl, rfl⟩
    grind
end

/-- The rest of a sail from (x, y) on, the point ahead of it being (u, v): at most so many points. -/
def sailF (b0 b1 : Int) : Nat → Int → Int → Int → Int → Option (List (Int × Int) × List Int)
  | 0, _, _, _, _ => none
  | k + 1, u, v, x, y => if x * b1 - y * b0 = 0 then some ([(x, y)], []) else
      (sailF b0 b1 k x y (turnL b0 b1 u v x y * x - u) (turnL b0 b1 u v x y * y - v)).map fun r => ((x, y) :: r.1, turnL b0 b1 u v x y :: r.2)

/-- The second point of a sail. -/
def shiftL (a0 a1 b0 b1 : Int) : Int := -((mateX a0 a1 * b1 - mateY a0 a1 * b0) / (a0 * b1 - a1 * b0))
def p1x (a0 a1 b0 b1 : Int) : Int := mateX a0 a1 + shiftL a0 a1 b0 b1 * a0
def p1y (a0 a1 b0 b1 : Int) : Int := mateY a0 a1 + shiftL a0 a1 b0 b1 * a1
def sailR (a0 a1 b0 b1 : Int) : Option (List (Int × Int) × List Int) := sailF b0 b1 1999 a0 a1 (p1x a0 a1 b0 b1) (p1y a0 a1 b0 b1)

theorem SailI.start {a0 a1 b0 b1 : Int} (ha : isPtF a0 a1 = true) (hb : isPtF b0 b1 = true) (hp : primF a0 a1 = true) (hw : 0 < a0 * b1 - a1 * b0) : SailI a0 a1 b0 b1 a0 a1 (p1x a0 a1 b0 b1) (p1y a0 a1 b0 b1) := by
  have hm := mate_det ha hp
  have h1 := ediv_bounds (a := mateX a0 a1 * b1 - mateY a0 a1 * b0) hw
  unfold p1x p1y shiftL
  generalize (mateX a0 a1 * b1 - mateY a0 a1 * b0) / (a0 * b1 - a1 * b0) = q at *
  generalize mateX a0 a1 = m0 at *
  generalize mateY a0 a1 = m1 at *
  have e1 : (m0 + -q * a0) * b1 - (m1 + -q * a1) * b0 = (m0 * b1 - m1 * b0) - (a0 * b1 - a1 * b0) * q := by grind
  have e2 : a0 * (m1 + -q * a1) - a1 * (m0 + -q * a0) = a0 * m1 - a1 * m0 := by grind
  have e3 : a0 * a1 - a1 * a0 = 0 := by grind
  exact ⟨by rw [e2]; exact hm, by rw [e1]; omega, by rw [e1]; omega, by omega, by rw [e2, hm]; omega, ha, hb, hw, ha⟩

/-! ### The same in the program's own words -/

def shiftP (a0 a1 b0 b1 : Int) : Int := w64 (0 - floorF (detF (mateX a0 a1) (mateY a0 a1) b0 b1) (detF a0 a1 b0 b1))
def turnP (b0 b1 u v x y : Int) : Int := w64 (0 - floorF (w64 (0 - detF u v b0 b1)) (detF x y b0 b1))

structure AngOk (a0 a1 b0 b1 : Int) : Prop where
  ca : isPtF a0 a1 = true
  cb : isPtF b0 b1 = true
  pa : primF a0 a1 = true
  pb : primF b0 b1 = true
  w : 1 ≤ detF a0 a1 b0 b1

section
variable {a0 a1 b0 b1 u v x y : Int}
theorem AngOk.w' (h : AngOk a0 a1 b0 b1) : 0 < a0 * b1 - a1 * b0 := by
  have := (det_pt h.ca h.cb).1
  have := h.w
  omega
theorem AngOk.gcd (h : AngOk a0 a1 b0 b1) : Int.gcd b0 b1 = 1 := prim_gcd h.cb h.pb
theorem AngOk.start (h : AngOk a0 a1 b0 b1) : SailI a0 a1 b0 b1 a0 a1 (p1x a0 a1 b0 b1) (p1y a0 a1 b0 b1) := SailI.start h.ca h.cb h.pa h.w'
theorem AngOk.shift (h : AngOk a0 a1 b0 b1) : shiftP a0 a1 b0 b1 = shiftL a0 a1 b0 b1 := by
  have h1 := det_pt (mate_pt h.ca) h.cb
  have h2 := det_pt h.ca h.cb
  have h3 := h.w'
  unfold shiftP shiftL
  rw [h1.1, h2.1, floorF_eq h3 (by omega) (by omega)]
  have := ediv_abs (a := mateX a0 a1 * b1 - mateY a0 a1 * b0) (m := 2000000000000) h3 (by omega) (by omega)
  rw [w64_in (by omega) (by omega), Int.zero_sub]
theorem AngOk.p1 (h : AngOk a0 a1 b0 b1) : plusF (mateX a0 a1) (shiftP a0 a1 b0 b1) a0 = p1x a0 a1 b0 b1 ∧ plusF (mateY a0 a1) (shiftP a0 a1 b0 b1) a1 = p1y a0 a1 b0 b1 := by
  have hp := isPtF_iff.1 h.start.pt
  rw [h.shift]
  unfold p1x p1y at *
  constructor
  · unfold plusF; rw [w64_add_r, w64_in (by omega) (by omega)]
  · unfold plusF; rw [w64_add_r, w64_in (by omega) (by omega)]

theorem SailI.turnP (h : SailI a0 a1 b0 b1 u v x y) (hd : x * b1 - y * b0 ≠ 0) : Ev.turnP b0 b1 u v x y = turnL b0 b1 u v x y := by
  have h1 := det_pt h.cu h.cb
  have h2 := det_pt h.pt h.cb
  have h3 := h.d0
  have ht := h.turn hd
  unfold Ev.turnP
  rw [h2.1, w64_in (n := 0 - detF u v b0 b1) (by omega) (by omega), h1.1, floorF_eq (by omega) (by omega) (by omega), Int.zero_sub (u * b1 - v * b0)]
  have e : turnL b0 b1 u v x y = -((-(u * b1 - v * b0)) / (x * b1 - y * b0)) := rfl
  rw [w64_in (by omega) (by omega), Int.zero_sub, e]
theorem SailI.nextP (h : SailI a0 a1 b0 b1 u v x y) (hd : x * b1 - y * b0 ≠ 0) :
    plusF (w64 (0 - u)) (Ev.turnP b0 b1 u v x y) x = turnL b0 b1 u v x y * x - u ∧ plusF (w64 (0 - v)) (Ev.turnP b0 b1 u v x y) y = turnL b0 b1 u v x y * y - v := by
  have ht := (h.turn hd).2.2
  have hp := isPtF_iff.1 ht.pt
  have hu := isPtF_iff.1 h.cu
  rw [h.turnP hd]
  constructor
  · unfold plusF; rw [w64_add_r, w64_in (n := 0 - u) (by omega) (by omega), w64_in (by omega) (by omega)]; omega
  · unfold plusF; rw [w64_add_r, w64_in (n := 0 - v) (by omega) (by omega), w64_in (by omega) (by omega)]; omega
theorem SailI.detP (h : SailI a0 a1 b0 b1 u v x y) : detF x y b0 b1 = x * b1 - y * b0 := (det_pt h.pt h.cb).1
end

/-- The state of the loop that makes a sail: P and T are laid down, (x, y) is to come. -/
structure SailS (a0 a1 b0 b1 : Int) (tot : Option (List (Int × Int) × List Int)) (u v x y : Int) (L sp : List Value) (n c : Nat) (M sq : List Value) (k d : Nat) (P : List (Int × Int)) (T : List Int) : Prop where
  inv : SailI a0 a1 b0 b1 u v x y
  row : Row L sp n c 2
  lst : L = pl P
  row2 : Row M sq k d 1
  lst2 : M = il T
  kn : k = n
  n1 : 1 ≤ n
  n2 : n ≤ 2000
  eq : (sailF b0 b1 (2000 - n) u v x y).map (fun r => (P ++ r.1, T ++ r.2)) = tot

def sailT (a0 a1 b0 b1 t0 : Int) : Option (List (Int × Int) × List Int) := (sailR a0 a1 b0 b1).map fun r => ((a0, a1) :: r.1, t0 :: r.2)

theorem SailS.start {a0 a1 b0 b1 t0 : Int} (h : AngOk a0 a1 b0 b1) : SailS a0 a1 b0 b1 (sailT a0 a1 b0 b1 t0) a0 a1 (plusF (mateX a0 a1) (shiftP a0 a1 b0 b1) a0) (plusF (mateY a0 a1) (shiftP a0 a1 b0 b1) a1)
    [iv a0, iv a1] [] 1 1 [iv t0] [] 1 1 [(a0, a1)] [t0] := by
  rw [h.p1.1, h.p1.2]
  exact ⟨h.start, Row.lit rfl rfl, rfl, Row.lit rfl rfl, rfl, rfl, by omega, by omega, rfl⟩

section
variable {a0 a1 b0 b1 u v x y : Int} {tot : Option (List (Int × Int) × List Int)} {L sp M sq sp' sq' : List Value} {n c k d c' d' : Nat} {P : List (Int × Int)} {T : List Int}
theorem SailS.full (h : SailS a0 a1 b0 b1 tot u v x y L sp n c M sq k d P T) (hn : n = 2000) : tot = none := by
  have := h.eq
  subst hn
  rw [← this]; rfl
theorem SailS.next (h : SailS a0 a1 b0 b1 tot u v x y L sp n c M sq k d P T) (hd : x * b1 - y * b0 ≠ 0) (hn : ¬ n + 1 > 2000) (hr : Row (L ++ [iv x, iv y]) sp' (n + 1) c' 2) (hr2 : Row (M ++ [iv (turnP b0 b1 u v x y)]) sq' (k + 1) d' 1) :
    SailS a0 a1 b0 b1 tot x y (plusF (w64 (0 - u)) (turnP b0 b1 u v x y) x) (plusF (w64 (0 - v)) (turnP b0 b1 u v x y) y) (L ++ [iv x, iv y]) sp' (n + 1) c' (M ++ [iv (turnP b0 b1 u v x y)]) sq' (k + 1) d' (P ++ [(x, y)]) (T ++ [turnP b0 b1 u v x y]) := by
  have hp := h.inv.nextP hd
  rw [hp.1, hp.2]
  have ht := h.inv.turnP hd
  refine ⟨(h.inv.turn hd).2.2, hr, by rw [pl_snoc, h.lst], hr2, by rw [il_snoc, h.lst2], by rw [h.kn], by omega, by omega, ?_⟩
  rw [← h.eq]
  have e : 2000 - n = (2000 - (n + 1)) + 1 := by omega
  rw [e, sailF, if_neg hd, ht, Option.map_map]
  congr 1
  funext r
  simp
theorem SailS.last (h : SailS a0 a1 b0 b1 tot u v x y L sp n c M sq k d P T) (hd : x * b1 - y * b0 = 0) (hn : ¬ n + 1 > 2000) : tot = some (P ++ [(x, y)], T) := by
  rw [← h.eq]
  have e : 2000 - n = (2000 - (n + 1)) + 1 := by omega
  rw [e, sailF, if_pos hd]
  simp
theorem SailS.next' (h : SailS a0 a1 b0 b1 tot u v x y L sp n c M sq k d P T) (hd : x * b1 - y * b0 ≠ 0) (hn : ¬ n + 1 > 2000) (hr : Row (L ++ [iv x, iv y]) sp' (n + 1) c' 2) (hr2 : Row (M ++ [iv (turnP b0 b1 u v x y)]) sq' (k + 1) d' 1) :
    SailS a0 a1 b0 b1 tot x y (plusF (plusF 0 (-1) u) (turnP b0 b1 u v x y) x) (plusF (plusF 0 (-1) v) (turnP b0 b1 u v x y) y) (L ++ [iv x, iv y]) sp' (n + 1) c' (M ++ [iv (turnP b0 b1 u v x y)]) sq' (k + 1) d' (P ++ [(x, y)]) (T ++ [turnP b0 b1 u v x y]) := by
  rw [plusF_0neg u, plusF_0neg v]
  exact h.next hd hn hr hr2
theorem SailS.fits (h : SailS a0 a1 b0 b1 tot u v x y L sp n c M sq k d P T) {P' : List (Int × Int)} {T' : List Int} (ht : tot = some (P', T')) : ¬ n + 1 > 2000 := fun hn => by
  have := h.full (by have := h.n2; omega)
  rw [ht] at this
  cases this
theorem SailS.fin (h : SailS a0 a1 b0 b1 tot u v x y L sp n c M sq k d P T) {P' : List (Int × Int)} {T' : List Int} (ht : tot = some (P', T')) (hd : x * b1 - y * b0 = 0) (t : Int) : L ++ [iv x, iv y] = pl P' ∧ M ++ [iv t] = il (T' ++ [t]) := by
  have := h.last hd (h.fits ht)
  rw [ht] at this
  cases this
  exact ⟨by rw [pl_snoc, h.lst], by rw [il_snoc, h.lst2]⟩
theorem SailS.ne (h : SailS a0 a1 b0 b1 tot u v x y L sp n c M sq k d P T) (hg : Int.gcd b0 b1 = 1) (hne : ¬ (x = b0 ∧ y = b1)) : x * b1 - y * b0 ≠ 0 := fun h0 => hne ((h.inv.last hg).1 h0)
end

/-- The state of the spec's loop: (u, v) and (x, y) are the last two points that are laid down. -/
structure SailN (a0 a1 b0 b1 : Int) (tot : Option (List (Int × Int) × List Int)) (u v x y : Int) (L sp : List Value) (n c : Nat) (M sq : List Value) (k d : Nat) (P : List (Int × Int)) (T : List Int) : Prop where
  inv : SailI a0 a1 b0 b1 u v x y
  row : Row L sp n c 2
  lst : L = pl (P ++ [(u, v), (x, y)])
  row2 : Row M sq k d 1
  lst2 : M = il T
  kn : k + 1 = n
  pn : P.length + 2 = n
  n2 : n ≤ 2001
  eq : (sailF b0 b1 (2001 - n) u v x y).map (fun r => (P ++ (u, v) :: r.1, T ++ r.2)) = tot

theorem SailN.start {a0 a1 b0 b1 t0 : Int} (h : AngOk a0 a1 b0 b1) : SailN a0 a1 b0 b1 (sailT a0 a1 b0 b1 t0) a0 a1 (plusF (mateX a0 a1) (shiftP a0 a1 b0 b1) a0) (plusF (mateY a0 a1) (shiftP a0 a1 b0 b1) a1)
    [iv a0, iv a1, iv (plusF (mateX a0 a1) (shiftP a0 a1 b0 b1) a0), iv (plusF (mateY a0 a1) (shiftP a0 a1 b0 b1) a1)] [] 2 2 [iv t0] [] 1 1 [] [t0] := by
  rw [h.p1.1, h.p1.2]
  exact ⟨h.start, Row.lit rfl rfl, rfl, Row.lit rfl rfl, rfl, rfl, rfl, by omega, rfl⟩

section
variable {a0 a1 b0 b1 u v x y : Int} {tot : Option (List (Int × Int) × List Int)} {L sp M sq sp' sq' : List Value} {n c k d c' d' : Nat} {P : List (Int × Int)} {T : List Int}
theorem SailN.fits (h : SailN a0 a1 b0 b1 tot u v x y L sp n c M sq k d P T) {P' : List (Int × Int)} {T' : List Int} (ht : tot = some (P', T')) : ¬ n > 2000 := fun hn => by
  have := h.eq
  have h2 := h.n2
  rw [show 2001 - n = 0 by omega, ht] at this
  cases this
theorem SailN.next (h : SailN a0 a1 b0 b1 tot u v x y L sp n c M sq k d P T) (hd : x * b1 - y * b0 ≠ 0) (hn : ¬ n > 2000) (hr : Row (L ++ [iv (plusF (w64 (0 - u)) (turnP b0 b1 u v x y) x), iv (plusF (w64 (0 - v)) (turnP b0 b1 u v x y) y)]) sp' (n + 1) c' 2)
    (hr2 : Row (M ++ [iv (turnP b0 b1 u v x y)]) sq' (k + 1) d' 1) :
    SailN a0 a1 b0 b1 tot x y (plusF (w64 (0 - u)) (turnP b0 b1 u v x y) x) (plusF (w64 (0 - v)) (turnP b0 b1 u v x y) y) (L ++ [iv (plusF (w64 (0 - u)) (turnP b0 b1 u v x y) x), iv (plusF (w64 (0 - v)) (turnP b0 b1 u v x y) y)]) sp' (n + 1) c'
      (M ++ [iv (turnP b0 b1 u v x y)]) sq' (k + 1) d' (P ++ [(u, v)]) (T ++ [turnP b0 b1 u v x y]) := by
  have hp := h.inv.nextP hd
  rw [hp.1, hp.2] at hr ⊢
  have ht := h.inv.turnP hd
  have hpn := h.pn
  refine ⟨(h.inv.turn hd).2.2, hr, ?_, hr2, by rw [il_snoc, h.lst2], by have := h.kn; omega, by simp; omega, by omega, ?_⟩
  · rw [h.lst, show P ++ [(u, v)] ++ [(x, y), (turnL b0 b1 u v x y * x - u, turnL b0 b1 u v x y * y - v)] = (P ++ [(u, v), (x, y)]) ++ [(turnL b0 b1 u v x y * x - u, turnL b0 b1 u v x y * y - v)] by simp, pl_snoc]
  · rw [← h.eq]
    have e : 2001 - n = (2001 - (n + 1)) + 1 := by omega
    rw [e, sailF, if_neg hd, ht, Option.map_map]
    congr 1
    funext r
    simp
theorem SailN.fin (h : SailN a0 a1 b0 b1 tot u v x y L sp n c M sq k d P T) {P' : List (Int × Int)} {T' : List Int} (ht : tot = some (P', T')) (hd : x * b1 - y * b0 = 0) (t : Int) : L = pl P' ∧ M ++ [iv t] = il (T' ++ [t]) := by
  have h1 := h.eq
  have e : 2001 - n = (2001 - (n + 1)) + 1 := by have := h.fits ht; omega
  rw [e, sailF, if_pos hd, ht] at h1
  cases h1
  exact ⟨by rw [h.lst], by simp [il, h.lst2]⟩
theorem SailN.some (h : SailN a0 a1 b0 b1 tot u v x y L sp n c M sq k d P T) (hd : x * b1 - y * b0 = 0) (hn : ¬ n > 2000) : tot ≠ none := by
  have h1 := h.eq
  have e : 2001 - n = (2001 - (n + 1)) + 1 := by omega
  rw [e, sailF, if_pos hd] at h1
  rw [← h1]
  exact fun hh => by cases hh
theorem SailN.drop2 (h : SailN a0 a1 b0 b1 tot u v x y L sp n c M sq k d P T) : List.drop ((w64 ((n : Int) - 2)).toNat * 2) (L ++ sp) = [iv u, iv v, iv x, iv y] ++ sp := by
  have h1 := h.pn; have h2 := h.n2
  rw [w64_in (by omega) (by omega), h.lst, pl_app, List.append_assoc]
  have : ((n : Int) - 2).toNat * 2 = (pl P).length := by rw [pl_len]; omega
  rw [this, List.drop_left]
  rfl
theorem SailN.at2 (h : SailN a0 a1 b0 b1 tot u v x y L sp n c M sq k d P T) {o : Nat} (ho : o = (w64 ((n : Int) - 2)).toNat * 2) : List.take 2 (List.drop o (L ++ sp)) = [iv u, iv v] := by
  subst ho; rw [h.drop2]; rfl
theorem SailN.at20 (h : SailN a0 a1 b0 b1 tot u v x y L sp n c M sq k d P T) {o : Nat} (ho : o = (w64 ((n : Int) - 2)).toNat * 2) : List.take 1 (List.drop o (L ++ sp)) = [iv u] := by
  subst ho; rw [h.drop2]; rfl
theorem SailN.at21 (h : SailN a0 a1 b0 b1 tot u v x y L sp n c M sq k d P T) {o : Nat} (ho : o = (w64 ((n : Int) - 2)).toNat * 2 + 1) : List.take 1 (List.drop o (L ++ sp)) = [iv v] := by
  subst ho; rw [← List.drop_drop, h.drop2]; rfl
theorem SailN.at1 (h : SailN a0 a1 b0 b1 tot u v x y L sp n c M sq k d P T) {o : Nat} (ho : o = (w64 ((n : Int) - 1)).toNat * 2) : List.take 2 (List.drop o (L ++ sp)) = [iv x, iv y] := by
  subst ho
  have h1 := h.pn; have h2 := h.n2; have h3 := h.drop2
  have : (w64 ((n : Int) - 1)).toNat * 2 = (w64 ((n : Int) - 2)).toNat * 2 + 2 := by rw [w64_in (by omega) (by omega), w64_in (by omega) (by omega)]; omega
  rw [this, ← List.drop_drop, h3]; rfl
end

end Go.Ev
