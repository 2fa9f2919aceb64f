/-
  Levels of fractions: down by parents, and down the tree between two whole numbers. The plain law.
  Conditions: none.
-/
import Derived.Test.YtnjepaboecijcaaLong
import Derived.Test.YtnjepaboecijcaaSpot
set_option linter.unusedVariables false
set_option linter.unusedSimpArgs false
namespace Go.Ev

structure FrOk (a b : Int) : Prop where
  pt : isPtF a b = true
  prim : primF a b = true
  b0 : 0 ≤ b
theorem FrOk.par {a b : Int} (h : FrOk a b) (h2 : 2 ≤ b) : ParOk a b := ⟨h.pt, h.prim, h2⟩
theorem gcd_of_det {a b x y : Int} (h : a * y - b * x = 1) : Int.gcd a b = 1 := by
  have h1 : (Int.gcd a b : Int) ∣ a := Int.gcd_dvd_left a b
  have h2 : (Int.gcd a b : Int) ∣ b := Int.gcd_dvd_right a b
  have h3 : (Int.gcd a b : Int) ∣ 1 := by
    rw [← h]
    exact Int.dvd_sub (Int.dvd_mul_of_dvd_left h1) (Int.dvd_mul_of_dvd_left h2)
  have := Int.le_of_dvd (by omega) h3
  have h4 : Int.gcd a b ≠ 0 := fun h0 => by
    rw [h0] at h3
    have := Int.zero_dvd.1 h3
    omega
  omega
theorem prim_of {a b : Int} (h : isPtF a b = true) (hg : Int.gcd a b = 1) : primF a b = true := by
  rw [isPtF_iff] at h
  unfold primF
  rw [gcdF_eq (by omega) (by omega), hg]
  rfl
theorem par_det {a b : Int} (h : ParOk a b) : a * parL1 a b - b * parL0 a b = 1 ∧ parR0 a b * b - parR1 a b * a = 1 ∧ (1 ≤ parR1 a b ∧ parR1 a b < b) ∧ (1 ≤ parL1 a b ∧ parL1 a b < b) ∧ parL1 a b = b - parR1 a b ∧ parL0 a b = a - parR0 a b := by
  have h1 := par_all h
  unfold parL1 parL0 parR0 parR1
  have e1 : a * (b - mateX b a) = a * b - a * mateX b a := Int.mul_sub ..
  have e2 : b * (a - mateY b a) = b * a - b * mateY b a := Int.mul_sub ..
  have e3 : mateY b a * b = b * mateY b a := Int.mul_comm ..
  have e4 : mateX b a * a = a * mateX b a := Int.mul_comm ..
  have e5 : a * b = b * a := Int.mul_comm ..
  refine ⟨by omega, by omega, ⟨h1.2.2.1, h1.2.2.2⟩, ⟨by omega, by omega⟩, rfl, rfl⟩
theorem fr_parR {a b : Int} (h : ParOk a b) : FrOk (parR0 a b) (parR1 a b) := by
  have h1 := par_det h
  exact ⟨par_bounds h, prim_of (par_bounds h) (gcd_of_det h1.2.1), by omega⟩
theorem parL_pt {a b : Int} (h : ParOk a b) : isPtF (parL0 a b) (parL1 a b) = true := by
  have h1 := par_det h
  have h2 := isPtF_iff.1 h.pt
  rw [isPtF_iff]
  generalize parL1 a b = y at *
  generalize parL0 a b = x at *
  have e : b * x = a * y - 1 := by omega
  have u1 : a * y ≤ 1000000 * y := Int.mul_le_mul_of_nonneg_right (by omega) (by omega)
  have u2 : -1000000 * y ≤ a * y := Int.mul_le_mul_of_nonneg_right (by omega) (by omega)
  refine ⟨⟨?_, ?_⟩, by omega⟩
  · rcases (by omega : x ≤ -1000001 ∨ -1000000 ≤ x) with hx | hx
    · have : b * x ≤ b * (-1000001) := Int.mul_le_mul_of_nonneg_left hx (by omega)
      omega
    · exact hx
  · rcases (by omega : 1000001 ≤ x ∨ x ≤ 1000000) with hx | hx
    · have : b * 1000001 ≤ b * x := Int.mul_le_mul_of_nonneg_left hx (by omega)
      omega
    · exact hx
theorem fr_parL {a b : Int} (h : ParOk a b) : FrOk (parL0 a b) (parL1 a b) := by
  have h1 := par_det h
  refine ⟨parL_pt h, prim_of (parL_pt h) (gcd_of_det (x := -a) (y := -b) ?_), by omega⟩
  rw [Int.mul_neg, Int.mul_neg, Int.mul_comm (parL0 a b), Int.mul_comm (parL1 a b)]
  omega

/-- The left parent is told by its determinant and its second number. -/
theorem par_uniq {a b x y : Int} (h : ParOk a b) (hd : a * y - b * x = 1) (h1 : 1 ≤ y) (h2 : y < b) : x = parL0 a b ∧ y = parL1 a b := by
  have h3 := par_det h
  have e1 : a * (y - parL1 a b) = b * (x - parL0 a b) := by rw [Int.mul_sub, Int.mul_sub]; omega
  have h4 : b ∣ a * (y - parL1 a b) := ⟨_, e1⟩
  have h5 : b ∣ y - parL1 a b := by
    obtain ⟨k, hk⟩ := h4
    have h6 := h3.1
    generalize y - parL1 a b = D at *
    generalize parL1 a b = L1 at *
    generalize parL0 a b = L0 at *
    refine ⟨L1 * k - L0 * D, ?_⟩
    have e3 : D = D * (a * L1 - b * L0) := by rw [h6, Int.mul_one]
    rw [e3]
    have e4 : D * (a * L1 - b * L0) = L1 * (a * D) - b * (L0 * D) := by grind
    rw [e4, hk]
    grind
  have ey : y = parL1 a b := by
    obtain ⟨k, hk⟩ := h5
    rcases (by omega : k ≤ -1 ∨ k = 0 ∨ 1 ≤ k) with hk1 | hk1 | hk1
    · have : b * k ≤ b * (-1) := Int.mul_le_mul_of_nonneg_left hk1 (by omega)
      omega
    · subst hk1; omega
    · have : b * 1 ≤ b * k := Int.mul_le_mul_of_nonneg_left hk1 (by omega)
      omega
  subst ey
  have e2 : b * x = b * parL0 a b := by omega
  exact ⟨Int.eq_of_mul_eq_mul_left (by omega) e2, rfl⟩

/-! ### Levels -/

def levF : Nat → Int → Int → Int
  | 0, _, b => b
  | n + 1, a, b => if b < 2 then b else if parR1 a b < parL1 a b then levF n (parR0 a b) (parR1 a b) + 1 else levF n (parL0 a b) (parL1 a b) + 1
def levL (a b : Int) : Int := levF b.toNat a b
theorem levF_stab : ∀ (n m : Nat) {a b : Int}, FrOk a b → b.toNat ≤ n → b.toNat ≤ m → levF n a b = levF m a b
  | 0, 0, a, b, h, h1, h2 => rfl
  | 0, m + 1, a, b, h, h1, h2 => by
    have := h.b0
    rw [levF, levF, if_pos (by omega)]
  | n + 1, 0, a, b, h, h1, h2 => by
    have := h.b0
    rw [levF, levF, if_pos (by omega)]
  | n + 1, m + 1, a, b, h, h1, h2 => by
    rw [levF, levF]
    split
    · rfl
    · rename_i hb
      have hp := h.par (by omega)
      have hd := par_det hp
      split
      · rw [levF_stab n m (fr_parR hp) (by omega) (by omega)]
      · rw [levF_stab n m (fr_parL hp) (by omega) (by omega)]
theorem lev_small {a b : Int} (h : FrOk a b) (hb : b < 2) : levL a b = b := by
  have := h.b0
  unfold levL
  rcases (by omega : b = 0 ∨ b = 1) with rfl | rfl
  · rfl
  · show levF 1 a 1 = 1
    rw [levF, if_pos (by omega)]
theorem lev_step {a b : Int} (h : ParOk a b) : levL a b = (if parR1 a b < parL1 a b then levL (parR0 a b) (parR1 a b) else levL (parL0 a b) (parL1 a b)) + 1 := by
  have h2 := h.two
  have hd := par_det h
  unfold levL
  rw [show b.toNat = (b.toNat - 1) + 1 by omega, levF, if_neg (by omega)]
  split
  · rw [levF_stab _ _ (fr_parR h) (show (parR1 a b).toNat ≤ b.toNat - 1 by omega) (Nat.le_refl _)]
  · rw [levF_stab _ _ (fr_parL h) (show (parL1 a b).toNat ≤ b.toNat - 1 by omega) (Nat.le_refl _)]
theorem lev_bd : ∀ (n : Nat) {a b : Int}, FrOk a b → b.toNat ≤ n → 0 ≤ levL a b ∧ levL a b ≤ b
  | 0, a, b, h, hn => by
    have := h.b0
    rw [lev_small h (by omega)]; omega
  | n + 1, a, b, h, hn => by
    have h0 := h.b0
    rcases (by omega : b < 2 ∨ 2 ≤ b) with hb | hb
    · rw [lev_small h hb]; omega
    · have hp := h.par hb
      have hd := par_det hp
      have h1 := lev_bd n (fr_parR hp) (by omega)
      have h2 := lev_bd n (fr_parL hp) (by omega)
      rw [lev_step hp]
      split <;> omega

theorem lev_R {a b : Int} (h : ParOk a b) (hlt : parR1 a b < parL1 a b) : w64 (levL (parR0 a b) (parR1 a b) + 1) = levL a b := by
  have h1 := lev_bd _ (fr_parR h) (Nat.le_refl _)
  have h2 := par_det h
  have h3 := isPtF_iff.1 h.pt
  rw [lev_step h, if_pos hlt, w64_in (by omega) (by omega)]
theorem lev_Lf {a b : Int} (h : ParOk a b) (hlt : ¬ parR1 a b < parL1 a b) : w64 (levL (parL0 a b) (parL1 a b) + 1) = levL a b := by
  have h1 := lev_bd _ (fr_parL h) (Nat.le_refl _)
  have h2 := par_det h
  have h3 := isPtF_iff.1 h.pt
  rw [lev_step h, if_neg hlt, w64_in (by omega) (by omega)]

/-- Two neighbours, the first one less. -/
structure Adj (x y u v : Int) : Prop where
  one : u * y - v * x = 1
  l : FrOk x y
  r : FrOk u v
  y1 : 1 ≤ y
  v1 : 1 ≤ v
theorem Adj.right {x y u v : Int} (h : Adj x y u v) (hv : y < v) : Adj x y (u - x) (v - y) ∧ levL u v = (if v - y < y then levL (u - x) (v - y) else levL x y) + 1 := by
  have hp : ParOk u v := h.r.par (by have := h.y1; omega)
  obtain ⟨e1, e2⟩ := par_uniq hp h.one h.y1 hv
  have hd := par_det hp
  have e3 : parR0 u v = u - x := by omega
  have e4 : parR1 u v = v - y := by omega
  have hr := fr_parR hp
  have hs := lev_step hp
  rw [e3, e4] at hr
  rw [e3, e4, ← e1, ← e2] at hs
  refine ⟨⟨?_, h.l, hr, h.y1, by omega⟩, hs⟩
  have := h.one
  rw [Int.sub_mul, Int.sub_mul, Int.mul_comm x y]; omega
theorem Adj.left {x y u v : Int} (h : Adj x y u v) (hv : v < y) : Adj (x - u) (y - v) u v ∧ levL x y = (if v < y - v then levL u v else levL (x - u) (y - v)) + 1 := by
  have hp : ParOk x y := h.l.par (by have := h.v1; omega)
  have hone := h.one; have hv1 := h.v1
  have e0 : x * (y - v) - y * (x - u) = 1 := by
    rw [Int.mul_sub, Int.mul_sub, Int.mul_comm y x, Int.mul_comm x v, Int.mul_comm y u]; omega
  obtain ⟨e1, e2⟩ := par_uniq hp e0 (by omega) (by omega)
  have hd := par_det hp
  have e3 : parR0 x y = u := by omega
  have e4 : parR1 x y = v := by omega
  have hl := fr_parL hp
  have hs := lev_step hp
  rw [← e1, ← e2] at hl
  rw [e3, e4, ← e1, ← e2] at hs
  refine ⟨⟨?_, hl, h.r, by omega, h.v1⟩, hs⟩
  rw [Int.mul_sub, Int.mul_sub, Int.mul_comm u v]; omega
theorem Adj.same {x y u v : Int} (h : Adj x y u v) (hv : y = v) : y = 1 := by
  subst hv
  have h1 := h.one; have h2 := h.y1
  have e : y * (u - x) = 1 := by rw [Int.mul_sub, Int.mul_comm y u]; exact h1
  have : y ∣ 1 := ⟨_, e.symm⟩
  have := Int.le_of_dvd (by omega) this
  omega
/-- The one with the lesser second number has not the greater level. -/
theorem Adj.mono : ∀ (n : Nat) {x y u v : Int}, Adj x y u v → y.toNat + v.toNat ≤ n → (y ≤ v → levL x y ≤ levL u v) ∧ (v ≤ y → levL u v ≤ levL x y)
  | 0, x, y, u, v, h, hn => by have := h.y1; omega
  | n + 1, x, y, u, v, h, hn => by
    have hy := h.y1; have hv := h.v1
    rcases (by omega : y = v ∨ y < v ∨ v < y) with he | he | he
    · have := h.same he
      rw [lev_small h.l (by omega), lev_small h.r (by omega)]; omega
    · obtain ⟨h1, e1⟩ := h.right he
      refine ⟨fun _ => ?_, fun hh => by omega⟩
      rw [e1]
      split
      · rename_i hlt
        obtain ⟨h2, e2⟩ := h1.left hlt
        rw [e2]
        split
        · omega
        · rename_i hge
          have := (Adj.mono n h2 (by have := h2.y1; omega)).1 (by omega)
          omega
      · omega
    · obtain ⟨h1, e1⟩ := h.left he
      refine ⟨fun hh => by omega, fun _ => ?_⟩
      rw [e1]
      split
      · omega
      · rename_i hge
        rcases (by omega : y - v = v ∨ y - v < v) with h3 | h3
        · have := h1.same h3
          have hb := lev_bd _ h1.l (Nat.le_refl _)
          rw [lev_small h.r (by omega)]; omega
        · obtain ⟨h2, e2⟩ := h1.right h3
          rw [e2]
          split
          · rename_i hlt
            have := (Adj.mono n h2 (by have := h2.v1; omega)).2 (by omega)
            omega
          · omega
theorem Adj.sum {x y u v : Int} (h : Adj x y u v) (hs : FrOk (x + u) (y + v)) : levL (x + u) (y + v) = mini (levL x y) (levL u v) + 1 := by
  have hy := h.y1; have hv := h.v1; have hone := h.one
  have hp := hs.par (by omega)
  have e0 : (x + u) * y - (y + v) * x = 1 := by
    rw [Int.add_mul, Int.add_mul, Int.mul_comm x y]; omega
  obtain ⟨e1, e2⟩ := par_uniq hp e0 hy (by omega)
  have hd := par_det hp
  have e3 : parR0 (x + u) (y + v) = u := by omega
  have e4 : parR1 (x + u) (y + v) = v := by omega
  rw [lev_step hp, e3, e4, ← e1, ← e2]
  have hm := h.mono _ (Nat.le_refl _)
  unfold mini
  split <;> split <;> rcases (by omega : y ≤ v ∨ v ≤ y) with hh | hh <;> first | (have := hm.1 hh; omega) | (have := hm.2 hh; omega)


theorem gcd_one_r (q : Int) : Int.gcd q 1 = 1 := by simp
theorem fr_int {q : Int} (h1 : -1000000 ≤ q) (h2 : q ≤ 1000000) : FrOk q 1 := by
  have hp : isPtF q 1 = true := by rw [isPtF_iff]; omega
  exact ⟨hp, prim_of hp (gcd_one_r q), by omega⟩

/-- The state of the descent: the fraction lies between two neighbours. -/
structure LvI (a b x y u v lo hi : Int) : Prop where
  ok : FrOk a b
  two : 2 ≤ b
  adj : Adj x y u v
  lt1 : 1 ≤ a * y - b * x
  lt2 : 1 ≤ u * b - v * a
  lo : lo = levL x y
  hi : hi = levL u v
section
variable {a b x y u v lo hi : Int}
theorem LvI.split (h : LvI a b x y u v lo hi) : (u * b - v * a) * y + (a * y - b * x) * v = b ∧ (u * b - v * a) * x + (a * y - b * x) * u = a := by
  have h1 := h.adj.one
  have e1 : (u * b - v * a) * y + (a * y - b * x) * v = b * (u * y - v * x) := by grind
  have e2 : (u * b - v * a) * x + (a * y - b * x) * u = a * (u * y - v * x) := by grind
  rw [e1, e2, h1]; omega
theorem LvI.sum_le (h : LvI a b x y u v lo hi) : y + v ≤ b ∧ (y + v = b → u * b - v * a = 1 ∧ a * y - b * x = 1) ∧ u * b - v * a ≤ b - 1 ∧ a * y - b * x ≤ b - 1 := by
  have h1 := h.split.1
  have h2 := h.lt1; have h3 := h.lt2; have hy := h.adj.y1; have hv := h.adj.v1
  generalize u * b - v * a = s at *
  generalize a * y - b * x = t at *
  have k1 : 1 * y ≤ s * y := Int.mul_le_mul_of_nonneg_right h3 (by omega)
  have k2 : 1 * v ≤ t * v := Int.mul_le_mul_of_nonneg_right h2 (by omega)
  have k3 : s * 1 ≤ s * y := Int.mul_le_mul_of_nonneg_left hy (by omega)
  have k4 : t * 1 ≤ t * v := Int.mul_le_mul_of_nonneg_left hv (by omega)
  refine ⟨by omega, fun he => ?_, by omega, by omega⟩
  constructor
  · rcases (by omega : s = 1 ∨ 2 ≤ s) with hs | hs
    · exact hs
    · have : 2 * y ≤ s * y := Int.mul_le_mul_of_nonneg_right hs (by omega)
      omega
  · rcases (by omega : t = 1 ∨ 2 ≤ t) with hs | hs
    · exact hs
    · have : 2 * v ≤ t * v := Int.mul_le_mul_of_nonneg_right hs (by omega)
      omega
theorem LvI.det (h : LvI a b x y u v lo hi) : a * (y + v) - b * (x + u) = (a * y - b * x) - (u * b - v * a) := by grind
theorem LvI.now (h : LvI a b x y u v lo hi) : FrOk (x + u) (y + v) := by
  have h1 := h.sum_le
  have h2 := h.lt1; have h3 := h.lt2; have hy := h.adj.y1; have hv := h.adj.v1; have hb := h.two
  have hp := isPtF_iff.1 h.ok.pt
  have hd := h.det
  have h5 := h.split
  have hpt : isPtF (x + u) (y + v) = true := by
    rw [isPtF_iff]
    refine ⟨?_, by omega⟩
    by_cases he : y + v = b
    · have h6 := h1.2.1 he
      rw [h6.1, h6.2] at h5
      omega
    · have hs := h1.2.2
      have hlt : y + v ≤ b - 1 := by omega
      generalize u * b - v * a = s at *
      generalize a * y - b * x = t at *
      have e : b * (x + u) = a * (y + v) - (t - s) := by omega
      generalize x + u = X at *
      generalize hY : y + v = Y at *
      have u1 : a * Y ≤ 1000000 * Y := Int.mul_le_mul_of_nonneg_right (by omega) (by omega)
      have u2 : -1000000 * Y ≤ a * Y := Int.mul_le_mul_of_nonneg_right (by omega) (by omega)
      constructor
      · rcases (by omega : X ≤ -1000001 ∨ -1000000 ≤ X) with hx | hx
        · have : b * X ≤ b * (-1000001) := Int.mul_le_mul_of_nonneg_left hx (by omega)
          omega
        · exact hx
      · rcases (by omega : 1000001 ≤ X ∨ X ≤ 1000000) with hx | hx
        · have : b * 1000001 ≤ b * X := Int.mul_le_mul_of_nonneg_left hx (by omega)
          omega
        · exact hx
  refine ⟨hpt, prim_of hpt (gcd_of_det (x := x) (y := y) ?_), by omega⟩
  have := h.adj.one
  rw [Int.add_mul, Int.add_mul, Int.mul_comm x y]; omega
theorem LvI.lev (h : LvI a b x y u v lo hi) : w64 (mini lo hi + 1) = levL (x + u) (y + v) := by
  have h1 := h.now
  have h2 := lev_bd _ h1 (Nat.le_refl _)
  have h3 := (isPtF_iff.1 h1.pt).2
  rw [h.lo, h.hi, ← h.adj.sum h1, w64_in (by omega) (by omega)]
theorem LvI.px (h : LvI a b x y u v lo hi) : plusF x 1 u = x + u ∧ plusF y 1 v = y + v := by
  have h1 := isPtF_iff.1 h.now.pt
  have h2 := isPtF_iff.1 h.adj.r.pt
  unfold plusF
  rw [Int.one_mul, Int.one_mul, w64_in (n := u) (by omega) (by omega), w64_in (n := v) (by omega) (by omega), w64_in (by omega) (by omega), w64_in (by omega) (by omega)]
  omega
theorem LvI.dd (h : LvI a b x y u v lo hi) : detF a b (x + u) (y + v) = (a * y - b * x) - (u * b - v * a) := by
  rw [(det_pt h.ok.pt h.now.pt).1, h.det]
/-- The fraction is found. -/
theorem LvI.hit (h : LvI a b x y u v lo hi) (hd : detF a b (x + u) (y + v) = 0) : w64 (mini lo hi + 1) = levL a b := by
  rw [h.lev]
  rw [h.dd] at hd
  have h1 := h.split
  have hs := h.lt2
  have e : a * y - b * x = u * b - v * a := by omega
  rw [e] at h1
  generalize u * b - v * a = s at *
  have e1 : s * (y + v) = b := by rw [Int.mul_add]; exact h1.1
  have e2 : s * (x + u) = a := by rw [Int.mul_add]; exact h1.2
  have hg : Int.gcd a b = 1 := prim_gcd h.ok.pt h.ok.prim
  have hdv : s ∣ 1 := by
    have g1 : (s.natAbs : Int) ∣ a := Int.natAbs_dvd.2 ⟨_, e2.symm⟩
    have g2 : (s.natAbs : Int) ∣ b := Int.natAbs_dvd.2 ⟨_, e1.symm⟩
    have := Int.dvd_gcd g1 g2
    rw [hg] at this
    exact Int.natAbs_dvd.1 (Int.natCast_dvd_natCast.2 this)
  have := Int.le_of_dvd (by omega) hdv
  have : s = 1 := by omega
  subst this
  rw [Int.one_mul] at e1 e2
  rw [e1, e2]
theorem LvI.up (h : LvI a b x y u v lo hi) (hd : detF a b (x + u) (y + v) > 0) : LvI a b (x + u) (y + v) u v (w64 (mini lo hi + 1)) hi := by
  rw [h.dd] at hd
  have hone := h.adj.one
  refine ⟨h.ok, h.two, ⟨?_, h.now, h.adj.r, by have := h.adj.y1; have := h.adj.v1; omega, h.adj.v1⟩, by rw [h.det]; omega, h.lt2, h.lev, h.hi⟩
  rw [Int.mul_add, Int.mul_add, Int.mul_comm v u]; omega
theorem LvI.down (h : LvI a b x y u v lo hi) (hd : detF a b (x + u) (y + v) < 0) : LvI a b x y (x + u) (y + v) lo (w64 (mini lo hi + 1)) := by
  rw [h.dd] at hd
  have hone := h.adj.one
  have hdt := h.det
  refine ⟨h.ok, h.two, ⟨?_, h.adj.l, h.now, h.adj.y1, by have := h.adj.y1; have := h.adj.v1; omega⟩, h.lt1, ?_, h.lo, h.lev⟩
  · rw [Int.add_mul, Int.add_mul, Int.mul_comm x y]; omega
  · rw [Int.mul_comm (x + u), Int.mul_comm (y + v)]; omega
theorem LvI.mu1 (h : LvI a b x y u v lo hi) (hd : detF a b (x + u) (y + v) > 0) : (b - (y + v + v)).toNat < (b - (y + v)).toNat := by
  have h2 := (h.up hd).sum_le; have := h.adj.v1; omega
theorem LvI.mu2 (h : LvI a b x y u v lo hi) (hd : detF a b (x + u) (y + v) < 0) : (b - (y + (y + v))).toNat < (b - (y + v)).toNat := by
  have h2 := (h.down hd).sum_le; have := h.adj.y1; omega
end
theorem LvI.start {a b : Int} (h : FrOk a b) (h2 : 2 ≤ b) : LvI a b (floorF a b) 1 (w64 (floorF a b + 1)) 1 1 1 := by
  have hp := isPtF_iff.1 h.pt
  have hb := ediv_bounds (a := a) (b := b) (by omega)
  have hab := ediv_abs (a := a) (b := b) (m := 1000000) (by omega) (by omega) (by omega)
  rw [floorF_eq (by omega) (by omega) (by omega), w64_in (by omega) (by omega)]
  have hne : b * (a / b) ≠ a := fun he => by
    have hg := prim_gcd h.pt h.prim
    have g1 : (b.natAbs : Int) ∣ a := Int.natAbs_dvd.2 ⟨_, he.symm⟩
    have g2 : (b.natAbs : Int) ∣ b := Int.natAbs_dvd.2 ⟨1, by omega⟩
    have := Int.dvd_gcd g1 g2
    rw [hg] at this
    have := Nat.le_of_dvd (by omega) this
    omega
  have hlt : a / b ≤ 999999 := by
    rcases (by omega : 1000000 ≤ a / b ∨ a / b ≤ 999999) with hq | hq
    · have : b * 1000000 ≤ b * (a / b) := Int.mul_le_mul_of_nonneg_left hq (by omega)
      omega
    · exact hq
  generalize a / b = q at *
  have f1 := fr_int (q := q) (by omega) (by omega)
  have f2 := fr_int (q := q + 1) (by omega) (by omega)
  have e : (q + 1) * b = b * q + b := by rw [Int.add_mul, Int.mul_comm]; omega
  exact ⟨h, h2, ⟨by omega, f1, f2, by omega, by omega⟩, by omega, by omega, (lev_small f1 (by omega)).symm, (lev_small f2 (by omega)).symm⟩

/-! ### The fraction to which another one is led -/

def movX (a b c d : Int) : Int := turnX (detF c d (mateX a b) (mateY a b)) (detF a b c d)
def movY (a b c d : Int) : Int := turnY (detF c d (mateX a b) (mateY a b)) (detF a b c d)
theorem ap_det0 (m0 m1 c d : Int) : apF m1 (w64 (0 - m0)) c d = detF c d m0 m1 := by
  unfold apF detF
  simp only [w64_mul_l, w64_add_l, w64_add_r, w64_sub_l, w64_sub_r]
  congr 1
  grind
theorem ap_det1 (a b c d : Int) : apF (w64 (0 - b)) a c d = detF a b c d := by
  unfold apF detF
  simp only [w64_mul_l, w64_add_l, w64_add_r, w64_sub_l, w64_sub_r]
  congr 1
  grind
theorem frac_iff {a b : Int} (h : isFracF a b = true) : isPtF a b = true ∧ primF a b = true ∧ 0 ≤ b ∧ (b = 0 → a = 1) := by
  simp only [isFracF, Bool.and_eq_true, Bool.or_eq_true, decide_eq_true_eq] at h
  refine ⟨h.1.1.1, h.1.1.2, h.1.2, fun h0 => ?_⟩
  rcases h.2 with h3 | h3
  · omega
  · exact h3
structure MovOk (a b c d : Int) : Prop where
  fa : isFracF a b = true
  fc : isFracF c d = true
theorem MovOk.all {a b c d : Int} (h : MovOk a b c d) : detF c d (mateX a b) (mateY a b) = c * mateY a b - d * mateX a b ∧ detF a b c d = a * d - b * c ∧ Int.gcd (detF c d (mateX a b) (mateY a b)) (detF a b c d) = 1 := by
  obtain ⟨p1, q1, z1, _⟩ := frac_iff h.fa
  obtain ⟨p2, q2, z2, _⟩ := frac_iff h.fc
  have e1 := (det_pt p2 (mate_pt p1)).1
  have e2 := (det_pt p1 p2).1
  refine ⟨e1, e2, ?_⟩
  have hm := mate_det p1 q1
  have hg := prim_gcd p2 q2
  rw [e1, e2]
  generalize mateX a b = m0 at *
  generalize mateY a b = m1 at *
  have g1 := Int.gcd_dvd_left (c * m1 - d * m0) (a * d - b * c)
  have g2 := Int.gcd_dvd_right (c * m1 - d * m0) (a * d - b * c)
  have i1 : ((Int.gcd (c * m1 - d * m0) (a * d - b * c) : Nat) : Int) ∣ c := by
    have : c = a * (c * m1 - d * m0) + m0 * (a * d - b * c) := by
      have : a * (c * m1 - d * m0) + m0 * (a * d - b * c) = c * (a * m1 - b * m0) := by grind
      rw [this, hm, Int.mul_one]
    have k := Int.dvd_add (Int.dvd_mul_of_dvd_right (b := a) g1) (Int.dvd_mul_of_dvd_right (b := m0) g2)
    rw [← this] at k
    exact k
  have i2 : ((Int.gcd (c * m1 - d * m0) (a * d - b * c) : Nat) : Int) ∣ d := by
    have : d = b * (c * m1 - d * m0) + m1 * (a * d - b * c) := by
      have : b * (c * m1 - d * m0) + m1 * (a * d - b * c) = d * (a * m1 - b * m0) := by grind
      rw [this, hm, Int.mul_one]
    have k := Int.dvd_add (Int.dvd_mul_of_dvd_right (b := b) g1) (Int.dvd_mul_of_dvd_right (b := m1) g2)
    rw [← this] at k
    exact k
  have := Int.dvd_gcd i1 i2
  rw [hg] at this
  exact Nat.dvd_one.1 this
theorem mov_cases {a b c d : Int} (h : MovOk a b c d) : (movX a b c d = detF c d (mateX a b) (mateY a b) ∧ movY a b c d = detF a b c d ∧ 0 ≤ detF a b c d) ∨ (movX a b c d = -detF c d (mateX a b) (mateY a b) ∧ movY a b c d = -detF a b c d ∧ detF a b c d ≤ 0) := by
  obtain ⟨p1, q1, z1, _⟩ := frac_iff h.fa
  obtain ⟨p2, q2, z2, _⟩ := frac_iff h.fc
  have e1 := (det_pt p2 (mate_pt p1)).2
  have e2 := (det_pt p1 p2).2
  unfold movX movY turnX turnY
  cases ht : turnF (detF c d (mateX a b) (mateY a b)) (detF a b c d)
  · simp only [turnF, Bool.or_eq_false_iff, decide_eq_false_iff_not] at ht
    exact .inl ⟨rfl, rfl, by omega⟩
  · simp only [turnF, Bool.or_eq_true, Bool.and_eq_true, decide_eq_true_eq] at ht
    refine .inr ⟨?_, ?_, by omega⟩
    · show w64 _ = _; rw [w64_in (by omega) (by omega)]; omega
    · show w64 _ = _; rw [w64_in (by omega) (by omega)]; omega
theorem mov_fr {a b c d : Int} (h : MovOk a b c d) (hp : isPtF (movX a b c d) (movY a b c d) = true) : FrOk (movX a b c d) (movY a b c d) := by
  have hg := h.all.2.2
  rcases mov_cases h with ⟨e1, e2, e3⟩ | ⟨e1, e2, e3⟩
  · exact ⟨hp, prim_of hp (by rw [e1, e2]; exact hg), by omega⟩
  · exact ⟨hp, prim_of hp (by rw [e1, e2, Int.neg_gcd, Int.gcd_neg]; exact hg), by omega⟩
/-- Fractions that are not equal have another determinant than 0. -/
theorem mov_pos {a b c d : Int} (h : MovOk a b c d) (hne : ¬ (a = c ∧ b = d)) : 1 ≤ movY a b c d := by
  have h0 : detF a b c d ≠ 0 := fun h0 => by
    have hall := h.all
    obtain ⟨p1, q1, z1, w1⟩ := frac_iff h.fa
    obtain ⟨p2, q2, z2, w2⟩ := frac_iff h.fc
    have hm := mate_det p1 q1
    have hX : c * mateY a b - d * mateX a b = 1 ∨ c * mateY a b - d * mateX a b = -1 := by
      have := hall.2.2
      rw [h0, Int.gcd_zero_right, hall.1] at this
      omega
    rw [hall.2.1] at h0
    generalize mateX a b = m0 at *
    generalize mateY a b = m1 at *
    have ec : c = a * (c * m1 - d * m0) := by
      have : a * (c * m1 - d * m0) + m0 * (a * d - b * c) = c * (a * m1 - b * m0) := by grind
      rw [h0, hm] at this
      omega
    have ed : d = b * (c * m1 - d * m0) := by
      have : b * (c * m1 - d * m0) + m1 * (a * d - b * c) = d * (a * m1 - b * m0) := by grind
      rw [h0, hm] at this
      omega
    rcases hX with hX | hX
    · rw [hX, Int.mul_one] at ec ed
      exact hne ⟨ec.symm, ed.symm⟩
    · rw [hX] at ec ed
      have hb : b = 0 := by omega
      have hd : d = 0 := by omega
      have := w1 hb; have := w2 hd
      omega
  rcases mov_cases h with ⟨e1, e2, e3⟩ | ⟨e1, e2, e3⟩ <;> omega
theorem mov_self {a b : Int} (h : isFracF a b = true) : movX a b a b = 1 ∧ movY a b a b = 0 := by
  have hall := (MovOk.mk h h).all
  obtain ⟨p1, q1, z1, w1⟩ := frac_iff h
  have hm := mate_det p1 q1
  have e1 : detF a b (mateX a b) (mateY a b) = 1 := by rw [hall.1]; omega
  have e2 : detF a b a b = 0 := by rw [hall.2.1, Int.mul_comm]; omega
  unfold movX movY
  rw [e1, e2]
  exact ⟨rfl, rfl⟩

end Go.Ev
