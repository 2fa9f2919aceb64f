/-
  Corners: cosines are told by congruences; unimodular matrices keep them. The plain law. Conditions: none.
-/
import Derived.Test.YtgbnoaggnfjjgaaSail
import Derived.Test.YtgbnoaggnfjjgaaDrw
set_option linter.unusedVariables false
set_option linter.unusedSimpArgs false
namespace Go.Ev

/-- The sine divides what is left. -/
theorem cos_dvd {a b c d : Int} (h : isCornF a b c d = true) : sineF a b c d ∣ c - cosF a b c d * a ∧ sineF a b c d ∣ d - cosF a b c d * b := by
  have h0 := isCornF_iff.1 h
  obtain ⟨h1, h2, h3, h4, h5⟩ := h0
  have hm := mate_det h1 h3
  have hs := sine_corn h
  have hd := (det_pt h1 h2).1
  have ht := (det_pt h2 (mate_pt h1)).1
  have hsd : sineF a b c d ∣ a * d - b * c := by
    rw [hs.2.2, ← hd]
    exact Int.natAbs_dvd.2 (Int.dvd_refl _)
  have e1 : c - twistF a b c d * a = mateX a b * (a * d - b * c) := by
    unfold twistF; rw [ht]
    have : c = c * (a * mateY a b - b * mateX a b) := by rw [hm, Int.mul_one]
    generalize mateX a b = X at *
    generalize mateY a b = Y at *
    grind
  have e2 : d - twistF a b c d * b = mateY a b * (a * d - b * c) := by
    unfold twistF; rw [ht]
    have : d = d * (a * mateY a b - b * mateX a b) := by rw [hm, Int.mul_one]
    generalize mateX a b = X at *
    generalize mateY a b = Y at *
    grind
  have hc : sineF a b c d ∣ twistF a b c d - cosF a b c d := by
    have h6 := Int.emod_add_mul_ediv (twistF a b c d) (sineF a b c d)
    unfold cosF
    split
    · exact ⟨twistF a b c d / sineF a b c d - 1, by rw [Int.mul_sub, Int.mul_one]; omega⟩
    · exact ⟨twistF a b c d / sineF a b c d, by omega⟩
  generalize cosF a b c d = k at *
  generalize twistF a b c d = t at *
  generalize sineF a b c d = s at *
  refine ⟨?_, ?_⟩
  · have : c - k * a = (c - t * a) + (t - k) * a := by grind
    rw [this, e1]
    exact Int.dvd_add (Int.dvd_mul_of_dvd_right hsd) (Int.dvd_mul_of_dvd_left hc)
  · have : d - k * b = (d - t * b) + (t - k) * b := by grind
    rw [this, e2]
    exact Int.dvd_add (Int.dvd_mul_of_dvd_right hsd) (Int.dvd_mul_of_dvd_left hc)
theorem dvd_prim {s a b x y k : Int} (hm : a * y - b * x = 1) (h1 : s ∣ k * a) (h2 : s ∣ k * b) : s ∣ k := by
  have : k = (k * a) * y - (k * b) * x := by
    have : k = k * (a * y - b * x) := by rw [hm, Int.mul_one]
    grind
  rw [this]
  exact Int.dvd_sub (Int.dvd_mul_of_dvd_left h1) (Int.dvd_mul_of_dvd_left h2)
theorem dvd_small {s k : Int} (hs : 0 < s) (h1 : -s < k) (h2 : k < s) (h : s ∣ k) : k = 0 := by
  obtain ⟨q, rfl⟩ := h
  rcases Int.lt_trichotomy q 0 with hq | hq | hq
  · have : s * q ≤ s * (-1) := Int.mul_le_mul_of_nonneg_left (by omega) (by omega)
    omega
  · rw [hq]; simp
  · have : s * 1 ≤ s * q := Int.mul_le_mul_of_nonneg_left (by omega) (by omega)
    omega
theorem cos_uniq {a b c d k : Int} (h : isCornF a b c d = true) (hk1 : 1 ≤ k) (hk2 : k ≤ sineF a b c d) (h1 : sineF a b c d ∣ c - k * a) (h2 : sineF a b c d ∣ d - k * b) : cosF a b c d = k := by
  have h0 := isCornF_iff.1 h
  have hb := cos_bounds h
  have hd := cos_dvd h
  have hs := (sine_corn h).1
  have hm := mate_det h0.1 h0.2.2.1
  generalize cosF a b c d = q at *
  generalize sineF a b c d = s at *
  have e1 : s ∣ (q - k) * a := by
    have := Int.dvd_sub h1 hd.1
    have e : c - k * a - (c - q * a) = (q - k) * a := by grind
    rwa [e] at this
  have e2 : s ∣ (q - k) * b := by
    have := Int.dvd_sub h2 hd.2
    have e : d - k * b - (d - q * b) = (q - k) * b := by grind
    rwa [e] at this
  have := dvd_small hs (by omega) (by omega) (dvd_prim hm e1 e2)
  omega
theorem sine_swap {a b c d : Int} (h : isCornF a b c d = true) : sineF c d a b = sineF a b c d := by
  have h0 := isCornF_iff.1 h
  rw [(sine_corn h).2.2, (sine_corn (corn_swap h)).2.2, (det_pt h0.1 h0.2.1).1, (det_pt h0.2.1 h0.1).1]
  have : c * b - d * a = -(a * d - b * c) := by grind
  rw [this, Int.natAbs_neg]
theorem sine_adj {a b c d : Int} (h : isCornF a b c d = true) : sineF c d (w64 (0 - a)) (w64 (0 - b)) = sineF a b c d := by
  have h0 := isCornF_iff.1 h
  obtain ⟨e1, e2, e3⟩ := neg_pt h0.1
  have h1 := corn_adj h
  rw [e1, e2] at h1 ⊢
  have h2 := isCornF_iff.1 h1
  rw [(sine_corn h).2.2, (sine_corn h1).2.2, (det_pt h0.1 h0.2.1).1, (det_pt h0.2.1 e3).1]
  have : c * -b - d * -a = a * d - b * c := by grind
  rw [this]
/-- The cosine times the other one leaves 1. -/
theorem cos_cos {a b c d : Int} (h : isCornF a b c d = true) : sineF a b c d ∣ 1 - cosF a b c d * cosF c d a b := by
  have h0 := isCornF_iff.1 h
  have hd := cos_dvd h
  have hd2 := cos_dvd (corn_swap h)
  rw [sine_swap h] at hd2
  have hm := mate_det h0.1 h0.2.2.1
  generalize cosF a b c d = k at *
  generalize cosF c d a b = q at *
  generalize sineF a b c d = s at *
  refine dvd_prim hm ?_ ?_
  · have : (1 - k * q) * a = (a - q * c) + q * (c - k * a) := by grind
    rw [this]
    exact Int.dvd_add hd2.1 (Int.dvd_mul_of_dvd_right hd.1)
  · have : (1 - k * q) * b = (b - q * d) + q * (d - k * b) := by grind
    rw [this]
    exact Int.dvd_add hd2.2 (Int.dvd_mul_of_dvd_right hd.2)
theorem mod_of_dvd {s x y : Int} (hs : 0 < s) (h : s ∣ y - x) : x % s = y % s := by
  obtain ⟨q, hq⟩ := h
  have : y = x + s * q := by omega
  rw [this, Int.add_mul_emod_self_left]

/-! ### What the functions answer -/
section
variable (a b c d : Int)
def coE : Int := limF (isCornF a b c d) (bigF a b c d)
def coV : Int := selF (isCornF a b c d) (selF (bigF a b c d) 0 (cosF a b c d)) 0
def siV : Int := selF (isCornF a b c d) (selF (bigF a b c d) 0 (sineF a b c d)) 0
def trE : Int := codeF (isCornF a b c d)
def tp0 : Int := selF (isCornF a b c d) c 0
def tp1 : Int := selF (isCornF a b c d) d 0
def tp2 : Int := selF (isCornF a b c d) a 0
def tp3 : Int := selF (isCornF a b c d) b 0
def ad2 : Int := selF (isCornF a b c d) (w64 (0 - a)) 0
def ad3 : Int := selF (isCornF a b c d) (w64 (0 - b)) 0
def riV : Bool := isCornF a b c d && (sameF a b c d c d a b && sameF a b c d c d (w64 (0 - a)) (w64 (0 - b)))
end
def eqE (a b c d e f g i : Int) : Int := codeF (isCornF a b c d && isCornF e f g i)
def eqV (a b c d e f g i : Int) : Bool := (isCornF a b c d && isCornF e f g i) && sameF a b c d e f g i
theorem co_ok {a b c d : Int} (h : decide (coE a b c d = 0) = true) : isCornF a b c d = true ∧ bigF a b c d = false := by
  have h := of_decide_eq_true h
  unfold coE limF at h
  cases h1 : isCornF a b c d <;> cases h2 : bigF a b c d <;> rw [h1] at h <;> (try rw [h2] at h) <;> first | (cases h; done) | exact ⟨rfl, rfl⟩
theorem co_lt {a b c d : Int} (h : decide (coE a b c d = 0) = true) : decide (coV a b c d < 1) = false := by
  obtain ⟨h1, h2⟩ := co_ok h
  have := cos_bounds h1
  unfold coV; rw [h1, h2]; exact decide_eq_false (by simp only [selF]; omega)
theorem co_gt {a b c d : Int} (h : decide (coE a b c d = 0) = true) : decide (coV a b c d > siV a b c d) = false := by
  obtain ⟨h1, h2⟩ := co_ok h
  have := cos_bounds h1
  unfold coV siV; rw [h1, h2]; exact decide_eq_false (by simp only [selF]; omega)
theorem si_nz {a b c d : Int} (h : decide (coE a b c d = 0) = true) : decide (siV a b c d = 0) = false := by
  obtain ⟨h1, h2⟩ := co_ok h
  have := sine_corn h1
  unfold siV; rw [h1, h2]; exact decide_eq_false (by simp only [selF]; omega)
theorem tr_eq {a b c d : Int} (h : isCornF a b c d = true) : tp0 a b c d = c ∧ tp1 a b c d = d ∧ tp2 a b c d = a ∧ tp3 a b c d = b ∧ ad2 a b c d = w64 (0 - a) ∧ ad3 a b c d = w64 (0 - b) := by
  unfold tp0 tp1 tp2 tp3 ad2 ad3; rw [h]; exact ⟨rfl, rfl, rfl, rfl, rfl, rfl⟩
theorem tr_co {a b c d : Int} (h : decide (coE a b c d = 0) = true) : decide (coE (tp0 a b c d) (tp1 a b c d) (tp2 a b c d) (tp3 a b c d) = 0) = true := by
  obtain ⟨h1, h2⟩ := co_ok h
  obtain ⟨e0, e1, e2, e3, _, _⟩ := tr_eq h1
  rw [e0, e1, e2, e3]
  unfold coE
  rw [corn_swap h1, show bigF c d a b = false by unfold bigF at *; rw [sine_swap h1]; exact h2]
  rfl
theorem ad_co {a b c d : Int} (h : decide (coE a b c d = 0) = true) : decide (coE (tp0 a b c d) (tp1 a b c d) (ad2 a b c d) (ad3 a b c d) = 0) = true := by
  obtain ⟨h1, h2⟩ := co_ok h
  obtain ⟨e0, e1, _, _, e2, e3⟩ := tr_eq h1
  rw [e0, e1, e2, e3]
  unfold coE
  rw [corn_adj h1, show bigF c d (w64 (0 - a)) (w64 (0 - b)) = false by unfold bigF at *; rw [sine_adj h1]; exact h2]
  rfl
theorem ad_si {a b c d : Int} (h : decide (coE a b c d = 0) = true) : decide (siV (tp0 a b c d) (tp1 a b c d) (ad2 a b c d) (ad3 a b c d) = siV a b c d) = true := by
  obtain ⟨h1, h2⟩ := co_ok h
  obtain ⟨e0, e1, _, _, e2, e3⟩ := tr_eq h1
  rw [e0, e1, e2, e3]
  unfold siV
  rw [h1, h2, corn_adj h1, show bigF c d (w64 (0 - a)) (w64 (0 - b)) = false by unfold bigF at *; rw [sine_adj h1]; exact h2, sine_adj h1]
  exact decide_eq_true rfl
theorem co_mod {a b c d : Int} (h : decide (coE a b c d = 0) = true) :
    decide ((w64 (coV a b c d * coV (tp0 a b c d) (tp1 a b c d) (tp2 a b c d) (tp3 a b c d))).tmod (siV a b c d) = (1 : Int).tmod (siV a b c d)) = true := by
  obtain ⟨h1, h2⟩ := co_ok h
  obtain ⟨e0, e1, e2, e3, _, _⟩ := tr_eq h1
  have hb := cos_bounds h1
  have hb2 := cos_bounds (corn_swap h1)
  have hg : bigF c d a b = false := by unfold bigF at *; rw [sine_swap h1]; exact h2
  rw [sine_swap h1] at hb2
  have hs := (sine_corn h1).1
  have hs2 : sineF a b c d ≤ 1000000 := by unfold bigF at h2; have := of_decide_eq_false h2; omega
  have hd := cos_cos h1
  refine decide_eq_true ?_
  rw [e0, e1, e2, e3]
  unfold coV siV
  rw [h1, h2, corn_swap h1, hg]
  simp only [selF]
  have hm := mul_abs (x := cosF a b c d) (y := cosF c d a b) (m := 1000000) (n := 1000000) (by omega) (by omega) (by omega) (by omega) (by omega)
  have h0 : 0 ≤ cosF a b c d * cosF c d a b := Int.mul_nonneg (by omega) (by omega)
  rw [w64_in (by omega) (by omega), tmod_pos h0, tmod_pos (by omega)]
  exact mod_of_dvd hs hd

/-! ### Moved corners -/
section
variable (a b c d e f g i : Int)
def mvOk : Bool := (isPtF a b && isPtF c d) && isCornF e f g i
def mvPt : Bool := isPtF (apF a b e f) (apF c d e f) && isPtF (apF a b g i) (apF c d g i)
def mvE : Int := selF (mvOk a b c d e f g i) (selF (nearF a b c d) (selF (mvPt a b c d e f g i) 0 3) 5) 1
def mvS (x : Int) : Int := selF (mvOk a b c d e f g i) (selF (nearF a b c d) (selF (mvPt a b c d e f g i) x 0) 0) 0
def mv0 : Int := mvS a b c d e f g i (apF a b e f)
def mv1 : Int := mvS a b c d e f g i (apF c d e f)
def mv2 : Int := mvS a b c d e f g i (apF a b g i)
def mv3 : Int := mvS a b c d e f g i (apF c d g i)
end
theorem mv_no {a b c d e f g i : Int} (h : decide (mvE a b c d e f g i = 0) = false) : mv0 a b c d e f g i = 0 ∧ mv1 a b c d e f g i = 0 ∧ mv2 a b c d e f g i = 0 ∧ mv3 a b c d e f g i = 0 := by
  have h := of_decide_eq_false h
  unfold mv0 mv1 mv2 mv3 mvS mvE at *
  cases h1 : mvOk a b c d e f g i
  · exact ⟨rfl, rfl, rfl, rfl⟩
  cases h2 : nearF a b c d
  · exact ⟨rfl, rfl, rfl, rfl⟩
  cases h3 : mvPt a b c d e f g i
  · exact ⟨rfl, rfl, rfl, rfl⟩
  · rw [h1, h2, h3] at h; exact absurd rfl h
theorem eqc4 {a b c d : Int} : eqCells #[Value.int .i64 a, .int .i64 b, .int .i64 c, .int .i64 d].toList #[Value.int .i64 a, .int .i64 b, .int .i64 c, .int .i64 d].toList = true := by simp [eqCells]
theorem mv_cells {a b c d e f g i : Int} (h : decide (mvE a b c d e f g i = 0) = false) :
    eqCells [.int .i64 (mv0 a b c d e f g i), .int .i64 (mv1 a b c d e f g i), .int .i64 (mv2 a b c d e f g i), .int .i64 (mv3 a b c d e f g i)] [.int .i64 0, .int .i64 0, .int .i64 0, .int .i64 0] = true := by
  obtain ⟨h0, h1, h2, h3⟩ := mv_no h
  rw [h0, h1, h2, h3]; rfl
theorem ap_eq {a b e f : Int} (h1 : isPtF a b = true) (h2 : isPtF e f = true) : apF a b e f = a * e + b * f := by
  rw [isPtF_iff] at h1 h2
  have h3 := mul_abs (x := a) (y := e) (m := 1000000) (n := 1000000) (by omega) (by omega) (by omega) (by omega) (by omega)
  have h4 := mul_abs (x := b) (y := f) (m := 1000000) (n := 1000000) (by omega) (by omega) (by omega) (by omega) (by omega)
  unfold apF
  rw [w64_in (n := a * e) (by omega) (by omega), w64_in (n := b * f) (by omega) (by omega), w64_in (by omega) (by omega)]
theorem unit_sq {D : Int} (h : D = 1 ∨ D = -1) : D * D = 1 := by rcases h with rfl | rfl <;> rfl
theorem prim_of {x y u v : Int} (hp : isPtF x y = true) (h : u * x + v * y = 1) : primF x y = true := by
  rw [isPtF_iff] at hp
  unfold primF
  rw [gcdF_eq (by omega) (by omega)]
  have h1 : ((Int.gcd x y : Nat) : Int) ∣ 1 := by
    rw [← h]
    exact Int.dvd_add (Int.dvd_mul_of_dvd_right (Int.gcd_dvd_left ..)) (Int.dvd_mul_of_dvd_right (Int.gcd_dvd_right ..))
  have h2 : Int.gcd x y ∣ 1 := by exact_mod_cast h1
  have := Nat.dvd_one.1 h2
  rw [this]; rfl
theorem ap_prim {a b c d e f : Int} (hD : a * d - b * c = 1 ∨ a * d - b * c = -1) (h2 : isPtF e f = true) (h3 : primF e f = true) (hp : isPtF (a * e + b * f) (c * e + d * f) = true) :
    primF (a * e + b * f) (c * e + d * f) = true := by
  have hm := mate_det h2 h3
  have hq := unit_sq hD
  generalize mateX e f = X at *
  generalize mateY e f = Y at *
  refine prim_of (u := (a * d - b * c) * (d * Y + c * X)) (v := (a * d - b * c) * (-(b * Y) - a * X)) hp ?_
  have : (a * d - b * c) * (d * Y + c * X) * (a * e + b * f) + (a * d - b * c) * (-(b * Y) - a * X) * (c * e + d * f) = ((a * d - b * c) * (a * d - b * c)) * (e * Y - f * X) := by grind
  rw [this, hq, hm]; rfl
theorem mv_same {a b c d e f g i : Int} (h : decide (mvE a b c d e f g i = 0) = true) :
    decide (eqE e f g i (mv0 a b c d e f g i) (mv1 a b c d e f g i) (mv2 a b c d e f g i) (mv3 a b c d e f g i) = 0) = true ∧ eqV e f g i (mv0 a b c d e f g i) (mv1 a b c d e f g i) (mv2 a b c d e f g i) (mv3 a b c d e f g i) = true := by
  suffices hh : eqE e f g i (mv0 a b c d e f g i) (mv1 a b c d e f g i) (mv2 a b c d e f g i) (mv3 a b c d e f g i) = 0 ∧ eqV e f g i (mv0 a b c d e f g i) (mv1 a b c d e f g i) (mv2 a b c d e f g i) (mv3 a b c d e f g i) = true from ⟨decide_eq_true hh.1, hh.2⟩
  have h := of_decide_eq_true h
  unfold mv0 mv1 mv2 mv3 mvS mvE at *
  cases h1 : mvOk a b c d e f g i
  · rw [h1] at h; cases h
  cases h2 : nearF a b c d
  · rw [h1, h2] at h; cases h
  cases h3 : mvPt a b c d e f g i
  · rw [h1, h2, h3] at h; cases h
  simp only [selF]
  simp only [mvOk, Bool.and_eq_true] at h1
  simp only [mvPt, Bool.and_eq_true] at h3
  obtain ⟨⟨ha, hc⟩, hx⟩ := h1
  have h0 := isCornF_iff.1 hx
  obtain ⟨he, hg, pe, pg, hn⟩ := h0
  rw [ap_eq ha he, ap_eq hc he, ap_eq ha hg, ap_eq hc hg] at h3 ⊢
  obtain ⟨q1, q2⟩ := h3
  have hD : a * d - b * c = 1 ∨ a * d - b * c = -1 := by
    rw [near_alt] at h2
    simp only [Bool.or_eq_true, decide_eq_true_eq] at h2
    rwa [(det_pt ha hc).1] at h2
  have ed := (det_pt q1 q2).1
  have e0 := (det_pt he hg).1
  have ex : (a * e + b * f) * (c * g + d * i) - (c * e + d * f) * (a * g + b * i) = (a * d - b * c) * (e * i - f * g) := by grind
  have hk : isCornF (a * e + b * f) (c * e + d * f) (a * g + b * i) (c * g + d * i) = true := by
    rw [isCornF_iff]
    refine ⟨q1, q2, ap_prim hD he pe q1, ap_prim hD hg pg q2, ?_⟩
    rw [ed, ex]
    rw [e0] at hn
    rcases hD with hD | hD <;> rw [hD] <;> omega
  have hs : sineF (a * e + b * f) (c * e + d * f) (a * g + b * i) (c * g + d * i) = sineF e f g i := by
    rw [(sine_corn hk).2.2, (sine_corn hx).2.2, ed, ex, e0]
    rcases hD with hD | hD <;> rw [hD]
    · rw [Int.one_mul]
    · rw [Int.neg_mul, Int.one_mul, Int.natAbs_neg]
  have hb := cos_bounds hx
  have hd := cos_dvd hx
  have hcos : cosF (a * e + b * f) (c * e + d * f) (a * g + b * i) (c * g + d * i) = cosF e f g i := by
    refine cos_uniq hk hb.1 (by rw [hs]; exact hb.2) ?_ ?_ <;> rw [hs] <;> generalize cosF e f g i = k at * <;> generalize sineF e f g i = s at *
    · have : a * g + b * i - k * (a * e + b * f) = a * (g - k * e) + b * (i - k * f) := by grind
      rw [this]
      exact Int.dvd_add (Int.dvd_mul_of_dvd_right hd.1) (Int.dvd_mul_of_dvd_right hd.2)
    · have : c * g + d * i - k * (c * e + d * f) = c * (g - k * e) + d * (i - k * f) := by grind
      rw [this]
      exact Int.dvd_add (Int.dvd_mul_of_dvd_right hd.1) (Int.dvd_mul_of_dvd_right hd.2)
  unfold eqE eqV sameF
  rw [hx, hk, hs, hcos]
  simp [codeF]

end Go.Ev
