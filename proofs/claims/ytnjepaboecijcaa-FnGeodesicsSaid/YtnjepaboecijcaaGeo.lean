/-
  Geodesics: the chain of parents of a fraction, down to 1, 0; its points, led back, are points. The plain law.
  Conditions: none.
-/
import Derived.Test.YtnjepaboecijcaaFar
set_option linter.unusedVariables false
set_option linter.unusedSimpArgs false
namespace Go.Ev

/-- The next one of a chain. -/
def gnx (x : Int × Int) : Int × Int :=
  if x.2 > 1 then (if levL (parR0 x.1 x.2) (parR1 x.1 x.2) < levL (parL0 x.1 x.2) (parL1 x.1 x.2) then (parR0 x.1 x.2, parR1 x.1 x.2) else (parL0 x.1 x.2, parL1 x.1 x.2)) else (1, 0)
def gch : Nat → Int × Int → List (Int × Int)
  | 0, x => [x]
  | n + 1, x => if x.2 > 0 then x :: gch n (gnx x) else [x]
def chn (x : Int × Int) : List (Int × Int) := gch x.2.toNat x
theorem fr_one : FrOk 1 0 := ⟨by decide, prim_of (by decide) (by simp), by decide⟩
theorem gnx_ok {x : Int × Int} (h : FrOk x.1 x.2) (hp : x.2 > 0) : FrOk (gnx x).1 (gnx x).2 ∧ (gnx x).2 < x.2 := by
  unfold gnx
  split
  · rename_i h1
    have hd := par_det (h.par (by omega))
    split
    · exact ⟨fr_parR (h.par (by omega)), by simp only; omega⟩
    · exact ⟨fr_parL (h.par (by omega)), by simp only; omega⟩
  · exact ⟨fr_one, by simp only; omega⟩
theorem gch_stab : ∀ (n m : Nat) {x : Int × Int}, FrOk x.1 x.2 → x.2.toNat ≤ n → x.2.toNat ≤ m → gch n x = gch m x
  | 0, 0, x, _, _, _ => rfl
  | 0, m + 1, x, h, h1, h2 => by have := h.b0; simp only [gch]; rw [if_neg (by omega)]
  | n + 1, 0, x, h, h1, h2 => by have := h.b0; simp only [gch]; rw [if_neg (by omega)]
  | n + 1, m + 1, x, h, h1, h2 => by
    simp only [gch]
    split
    · rename_i hp
      have hg := gnx_ok h hp
      have := hg.1.b0
      rw [gch_stab n m hg.1 (by omega) (by omega)]
    · rfl
theorem chn_pos {x : Int × Int} (h : FrOk x.1 x.2) (hp : x.2 > 0) : chn x = x :: chn (gnx x) := by
  have hg := gnx_ok h hp
  have := hg.1.b0
  obtain ⟨n, hn⟩ : ∃ n, x.2.toNat = n + 1 := ⟨x.2.toNat - 1, by omega⟩
  show gch x.2.toNat x = _
  rw [hn]
  simp only [gch, if_pos hp]
  rw [gch_stab n (gnx x).2.toNat hg.1 (by omega) (Nat.le_refl _)]
  rfl
theorem chn_zero {x : Int × Int} (h : FrOk x.1 x.2) (hp : ¬ x.2 > 0) : chn x = [x] := by
  have := h.b0
  show gch x.2.toNat x = _
  rw [show x.2.toNat = 0 by omega]
  rfl
theorem chn_one {x : Int × Int} (h : FrOk x.1 x.2) (hp : x.2 = 1) : chn x = [x, (1, 0)] := by
  rw [chn_pos h (by omega)]
  have : gnx x = (1, 0) := by unfold gnx; rw [if_neg (by omega)]
  rw [this, chn_zero fr_one (by decide)]
theorem chn_len : ∀ (n : Nat) {x : Int × Int}, FrOk x.1 x.2 → x.2.toNat ≤ n → (chn x).length ≤ n + 1
  | 0, x, h, hn => by rw [chn_zero h (by omega)]; simp
  | n + 1, x, h, hn => by
    by_cases hp : x.2 > 0
    · rw [chn_pos h hp]
      have hg := gnx_ok h hp
      have := hg.1.b0
      have := chn_len n hg.1 (by omega)
      simp only [List.length_cons]; omega
    · rw [chn_zero h hp]; simp
theorem chn_bd {x : Int × Int} (h : FrOk x.1 x.2) : (chn x).length ≤ 1000001 := by
  have h1 := isPtF_iff.1 h.pt
  have := chn_len 1000000 h (by omega)
  exact this

/-! ### The first loop of the program -/
structure GeoI (X Y x y : Int) (L : List (Int × Int)) (sp : List Value) (n c : Nat) : Prop where
  fr : FrOk x y
  eq : L ++ (chn (x, y)).tail = chn (X, Y)
  row : Row (pl L) sp n c 2
section
variable {X Y x y : Int} {L : List (Int × Int)} {sp sp' : List Value} {n c c' : Nat}
theorem GeoI.start (h : FrOk X Y) : GeoI X Y X Y [(X, Y)] [] 1 1 := by
  refine ⟨h, ?_, Row.lit rfl rfl⟩
  by_cases hp : Y > 0
  · rw [chn_pos (x := (X, Y)) h hp]; rfl
  · rw [chn_zero (x := (X, Y)) h hp]; rfl
theorem GeoI.bd (h : GeoI X Y x y L sp n c) (hF : FrOk X Y) : n ≤ 1000001 := by
  have h1 := chn_bd (x := (X, Y)) hF
  rw [← h.eq, List.length_append] at h1
  have := row_pl h.row
  omega
theorem GeoI.next (h : GeoI X Y x y L sp n c) (hp : y > 0) {z : Int × Int} (hz : gnx (x, y) = z) (hr : Row (pl L ++ [iv z.1, iv z.2]) sp' (n + 1) c' 2) : GeoI X Y z.1 z.2 (L ++ [z]) sp' (n + 1) c' := by
  subst hz
  have hg := gnx_ok (x := (x, y)) h.fr hp
  refine ⟨hg.1, ?_, by rw [pl_snoc]; exact hr⟩
  have e := h.eq
  rw [chn_pos (x := (x, y)) h.fr hp, List.tail_cons] at e
  rw [← e, List.append_assoc]
  congr 1
  by_cases hq : (gnx (x, y)).2 > 0
  · rw [chn_pos hg.1 hq]; rfl
  · rw [chn_zero hg.1 hq]; rfl
theorem GeoI.mu (h : GeoI X Y x y L sp n c) (hp : y > 0) {z : Int × Int} (hz : gnx (x, y) = z) : z.2.toNat < y.toNat := by
  subst hz
  have hg := gnx_ok (x := (x, y)) h.fr hp
  have h1 : (gnx (x, y)).2 < y := hg.2
  omega
theorem GeoI.fin (h : GeoI X Y x y L sp n c) (hp : ¬ y > 0) : L = chn (X, Y) := by
  have e := h.eq
  rw [chn_zero (x := (x, y)) h.fr hp] at e
  simpa using e
theorem gnx_one {x y : Int} (h : ¬ y > 1) : gnx (x, y) = (1, 0) := by unfold gnx; rw [if_neg h]
theorem gnx_R {x y : Int} (h : y > 1) (hl : levL (parR0 x y) (parR1 x y) < levL (parL0 x y) (parL1 x y)) : gnx (x, y) = (parR0 x y, parR1 x y) := by unfold gnx; rw [if_pos h, if_pos hl]
theorem gnx_L {x y : Int} (h : y > 1) (hl : ¬ levL (parR0 x y) (parR1 x y) < levL (parL0 x y) (parL1 x y)) : gnx (x, y) = (parL0 x y, parL1 x y) := by unfold gnx; rw [if_pos h, if_neg hl]
end

/-! ### Both ways back -/
def gbX (a b : Int) (z : Int × Int) : Int := plusF (plusF 0 z.1 a) z.2 (mateX a b)
def gbY (a b : Int) (z : Int × Int) : Int := plusF (plusF 0 z.1 b) z.2 (mateY a b)
/-- A point of the chain, led back. -/
def gbk (a b : Int) (z : Int × Int) : Int × Int := (turnX (gbX a b z) (gbY a b z), turnY (gbX a b z) (gbY a b z))
structure BkOk (a b : Int) (z : Int × Int) : Prop where
  x : -1000000 ≤ a * z.1 + mateX a b * z.2 ∧ a * z.1 + mateX a b * z.2 ≤ 1000000
  y : -1000000 ≤ b * z.1 + mateY a b * z.2 ∧ b * z.1 + mateY a b * z.2 ≤ 1000000
theorem plus2 (k l u v : Int) : plusF (plusF 0 k u) l v = w64 (u * k + v * l) := by
  unfold plusF
  simp only [w64_mul_l, w64_add_l, w64_add_r]
  congr 1
  grind
theorem BkOk.val {a b : Int} {z : Int × Int} (h : BkOk a b z) : gbX a b z = a * z.1 + mateX a b * z.2 ∧ gbY a b z = b * z.1 + mateY a b * z.2 := by
  obtain ⟨h1, h2⟩ := h
  unfold gbX gbY
  rw [plus2, plus2, w64_in (by omega) (by omega), w64_in (by omega) (by omega)]
  exact ⟨rfl, rfl⟩
theorem BkOk.pt {a b : Int} {z : Int × Int} (h : BkOk a b z) : isPtF (gbk a b z).1 (gbk a b z).2 = true := by
  obtain ⟨e1, e2⟩ := h.val
  obtain ⟨h1, h2⟩ := h
  unfold gbk turnX turnY
  rw [e1, e2]
  simp only
  rw [isPtF_iff]
  cases turnF (a * z.fst + mateX a b * z.snd) (b * z.fst + mateY a b * z.snd)
  · show (_ ∧ _ ≤ _) ∧ _ ∧ _ ≤ _
    simp only [selF]
    exact ⟨h1, h2⟩
  · simp only [selF]
    rw [w64_in (by omega) (by omega), w64_in (by omega) (by omega)]; omega
theorem BkOk.one {a b : Int} (h : isPtF a b = true) : BkOk a b (1, 0) := by
  have := isPtF_iff.1 h
  constructor <;> simp <;> omega
theorem bk_one {a b : Int} (h : isFracF a b = true) : gbk a b (1, 0) = (a, b) := by
  obtain ⟨p1, q1, z1, w1⟩ := frac_iff h
  obtain ⟨e1, e2⟩ := (BkOk.one p1).val
  unfold gbk turnX turnY
  rw [e1, e2]
  simp only [Int.mul_one, Int.mul_zero, Int.add_zero]
  have : turnF a b = false := by
    simp only [turnF, Bool.or_eq_false_iff, Bool.and_eq_false_iff, decide_eq_false_iff_not]
    refine ⟨by omega, ?_⟩
    by_cases hb : b = 0
    · have := w1 hb; right; omega
    · left; exact hb
  rw [this]
  simp [selF]
theorem par_in {z1 z2 p1 p2 s a m : Int} (hz : 2 ≤ z2) (hp : 1 ≤ p2 ∧ p2 < z2) (hs : s = 1 ∨ s = -1) (hd : z1 * p2 - z2 * p1 = s) (ha : -1000000 ≤ a ∧ a ≤ 1000000) (hb : -1000000 ≤ a * z1 + m * z2 ∧ a * z1 + m * z2 ≤ 1000000) :
    -1000000 ≤ a * p1 + m * p2 ∧ a * p1 + m * p2 ≤ 1000000 := by
  have e : z2 * (a * p1 + m * p2) = p2 * (a * z1 + m * z2) - s * a := by grind
  generalize a * z1 + m * z2 = B at *
  generalize a * p1 + m * p2 = C at *
  have u1 : p2 * B ≤ p2 * 1000000 := Int.mul_le_mul_of_nonneg_left (by omega) (by omega)
  have u2 : p2 * (-1000000) ≤ p2 * B := Int.mul_le_mul_of_nonneg_left (by omega) (by omega)
  have hsa : -1000000 ≤ s * a ∧ s * a ≤ 1000000 := by rcases hs with rfl | rfl <;> omega
  constructor
  · rcases (by omega : C ≤ -1000001 ∨ -1000000 ≤ C) with hc | hc
    · have : z2 * C ≤ z2 * (-1000001) := Int.mul_le_mul_of_nonneg_left hc (by omega)
      omega
    · exact hc
  · rcases (by omega : 1000001 ≤ C ∨ C ≤ 1000000) with hc | hc
    · have : z2 * 1000001 ≤ z2 * C := Int.mul_le_mul_of_nonneg_left hc (by omega)
      omega
    · exact hc
theorem BkOk.next {a b : Int} {z : Int × Int} (h : BkOk a b z) (hp : isPtF a b = true) (hz : FrOk z.1 z.2) : BkOk a b (gnx z) := by
  have hq := isPtF_iff.1 hp
  unfold gnx
  split
  · rename_i h1
    have hd := par_det (hz.par (by omega))
    split
    · have e : z.1 * parR1 z.1 z.2 - z.2 * parR0 z.1 z.2 = -1 := by
        have := hd.2.1
        rw [Int.mul_comm (parR0 z.1 z.2), Int.mul_comm (parR1 z.1 z.2)] at this
        omega
      exact ⟨par_in (by omega) hd.2.2.1 (.inr rfl) e ⟨by omega, by omega⟩ h.x, par_in (by omega) hd.2.2.1 (.inr rfl) e ⟨by omega, by omega⟩ h.y⟩
    · exact ⟨par_in (by omega) hd.2.2.2.1 (.inl rfl) hd.1 ⟨by omega, by omega⟩ h.x, par_in (by omega) hd.2.2.2.1 (.inl rfl) hd.1 ⟨by omega, by omega⟩ h.y⟩
  · exact BkOk.one hp
theorem BkOk.all {a b : Int} (hp : isPtF a b = true) : ∀ (n : Nat) {z : Int × Int}, BkOk a b z → FrOk z.1 z.2 → z.2.toNat ≤ n → ∀ y ∈ chn z, BkOk a b y
  | 0, z, h, hz, hn, y, hy => by
    rw [chn_zero hz (by omega)] at hy
    simp at hy; subst hy; exact h
  | n + 1, z, h, hz, hn, y, hy => by
    by_cases h0 : z.2 > 0
    · rw [chn_pos hz h0] at hy
      have hg := gnx_ok hz h0
      have := hg.1.b0
      rcases List.mem_cons.1 hy with rfl | hy
      · exact h
      · exact BkOk.all hp n (h.next hp hz) hg.1 (by omega) y hy
    · rw [chn_zero hz h0] at hy
      simp at hy; subst hy; exact h
theorem BkOk.mov {a b c d : Int} (h : MovOk a b c d) : BkOk a b (movX a b c d, movY a b c d) := by
  have hall := h.all
  obtain ⟨p1, q1, z1, w1⟩ := frac_iff h.fa
  obtain ⟨p2, q2, z2, w2⟩ := frac_iff h.fc
  have hm := mate_det p1 q1
  have b2 := isPtF_iff.1 p2
  have hc := mov_cases h
  rw [hall.1, hall.2.1] at hc
  have ec : a * (c * mateY a b - d * mateX a b) + mateX a b * (a * d - b * c) = c := by
    have : a * (c * mateY a b - d * mateX a b) + mateX a b * (a * d - b * c) = c * (a * mateY a b - b * mateX a b) := by grind
    rw [this, hm, Int.mul_one]
  have ed : b * (c * mateY a b - d * mateX a b) + mateY a b * (a * d - b * c) = d := by
    have : b * (c * mateY a b - d * mateX a b) + mateY a b * (a * d - b * c) = d * (a * mateY a b - b * mateX a b) := by grind
    rw [this, hm, Int.mul_one]
  rcases hc with ⟨e1, e2, _⟩ | ⟨e1, e2, _⟩
  · refine ⟨?_, ?_⟩
    · show _ ≤ a * movX a b c d + _ ∧ a * movX a b c d + _ ≤ _
      rw [e1, e2, ec]; omega
    · show _ ≤ b * movX a b c d + _ ∧ b * movX a b c d + _ ≤ _
      rw [e1, e2, ed]; omega
  · refine ⟨?_, ?_⟩
    · show _ ≤ a * movX a b c d + _ ∧ a * movX a b c d + _ ≤ _
      rw [e1, e2, Int.mul_neg, Int.mul_neg, ← Int.neg_add, ec]; omega
    · show _ ≤ b * movX a b c d + _ ∧ b * movX a b c d + _ ≤ _
      rw [e1, e2, Int.mul_neg, Int.mul_neg, ← Int.neg_add, ed]; omega
/-- What the program hands back. -/
def geoL (a b c d : Int) : List (Int × Int) := ((chn (movX a b c d, movY a b c d)).reverse).map (gbk a b)

theorem gchL_pt {a b c d : Int} (h : MovOk a b c d) (hp : isPtF (movX a b c d) (movY a b c d) = true) : ∀ y ∈ chn (movX a b c d, movY a b c d), BkOk a b y :=
  BkOk.all (frac_iff h.fa).1 _ (BkOk.mov h) (mov_fr h hp) (Nat.le_refl _)
theorem chn_last : ∀ (n : Nat) {x : Int × Int}, FrOk x.1 x.2 → 1 ≤ x.2 → x.2.toNat ≤ n → chn x = (chn x).dropLast ++ [(1, 0)]
  | 0, x, h, h1, hn => by omega
  | n + 1, x, h, h1, hn => by
    have hg := gnx_ok h (by omega)
    rw [chn_pos h (by omega)]
    by_cases h2 : x.2 > 1
    · have h3 : 1 ≤ (gnx x).2 := by
        have hd := par_det (h.par (by omega))
        unfold gnx
        rw [if_pos h2]
        split
        · exact hd.2.2.1.1
        · exact hd.2.2.2.1.1
      have := chn_last n hg.1 h3 (by omega)
      generalize chn (gnx x) = M at this ⊢
      cases M with
      | nil => simp at this
      | cons m M' => exact congrArg (x :: ·) this
    · have : gnx x = (1, 0) := by unfold gnx; rw [if_neg h2]
      rw [this, chn_zero fr_one (by decide)]
      rfl

/-! ### The reference's loops -/
structure GeoS (X Y x y : Int) (L : List (Int × Int)) (sp : List Value) (n c : Nat) : Prop where
  fr : FrOk x y
  y1 : 1 ≤ y
  eq : L ++ (chn (x, y)).dropLast = (chn (X, Y)).dropLast
  row : Row (pl L) sp n c 2
section
variable {X Y x y : Int} {L : List (Int × Int)} {sp sp' : List Value} {n c c' : Nat}
theorem GeoS.start (h : FrOk X Y) (h1 : 1 ≤ Y) : GeoS X Y X Y [] [] 0 0 := ⟨h, h1, rfl, Row.lit rfl rfl⟩
theorem GeoS.bd (h : GeoS X Y x y L sp n c) (hF : FrOk X Y) : n ≤ 1000001 := by
  have h1 := chn_bd (x := (X, Y)) hF
  have h2 := congrArg List.length h.eq
  rw [List.length_append, List.length_dropLast, List.length_dropLast] at h2
  have := row_pl h.row
  omega
theorem chn_drop {x : Int × Int} (h : FrOk x.1 x.2) (hp : x.2 > 0) : (chn x).dropLast = x :: (chn (gnx x)).dropLast := by
  rw [chn_pos h hp]
  have hg := gnx_ok h hp
  by_cases hq : (gnx x).2 > 0
  · rw [chn_pos hg.1 hq]; rfl
  · rw [chn_zero hg.1 hq]; rfl
theorem GeoS.next (h : GeoS X Y x y L sp n c) (hp : y > 1) {z : Int × Int} (hz : gnx (x, y) = z) (hr : Row (pl L ++ [iv x, iv y]) sp' (n + 1) c' 2) : GeoS X Y z.1 z.2 (L ++ [(x, y)]) sp' (n + 1) c' := by
  subst hz
  have hg := gnx_ok (x := (x, y)) h.fr (show y > 0 by omega)
  refine ⟨hg.1, ?_, ?_, by rw [pl_snoc]; exact hr⟩
  · have hd := par_det (h.fr.par (by omega))
    unfold gnx
    rw [if_pos (show (x, y).2 > 1 from hp)]
    split
    · exact hd.2.2.1.1
    · exact hd.2.2.2.1.1
  · have e := h.eq
    rw [chn_drop (x := (x, y)) h.fr (show y > 0 by omega)] at e
    rw [← e, List.append_assoc]; rfl
theorem GeoS.mu (h : GeoS X Y x y L sp n c) (hp : y > 1) {z : Int × Int} (hz : gnx (x, y) = z) : z.2.toNat < y.toNat := by
  subst hz
  have hg := gnx_ok (x := (x, y)) h.fr (show y > 0 by omega)
  have h1 : (gnx (x, y)).2 < y := hg.2
  omega
theorem GeoS.fin (h : GeoS X Y x y L sp n c) (hp : ¬ y > 1) : L ++ [(x, y)] = (chn (X, Y)).dropLast := by
  have e := h.eq
  have := h.y1
  rw [chn_one (x := (x, y)) h.fr (show y = 1 by omega)] at e
  exact e
end
/-- The list led back, from its end. -/
structure GeoB (a b : Int) (M : List (Int × Int)) (i : Int) (O : List (Int × Int)) (sp : List Value) (n c : Nat) : Prop where
  ex : ∃ k, k ≤ M.length ∧ i = (M.length : Int) - 1 - k ∧ O = (a, b) :: (M.reverse.take k).map (gbk a b)
  row : Row (pl O) sp n c 2
section
variable {a b i : Int} {M O : List (Int × Int)} {sp sp' : List Value} {n c c' : Nat}
theorem GeoB.start (hM : M.length ≤ 1000001) : GeoB a b M (w64 ((M.length : Int) - 1)) [(a, b)] [] 1 1 := by
  refine ⟨⟨0, Nat.zero_le _, ?_, rfl⟩, Row.lit rfl rfl⟩
  rw [w64_in (by omega) (by omega)]; omega
theorem GeoB.ix (h : GeoB a b M i O sp n c) (hM : M.length ≤ 1000001) (hi : i ≥ 0) : 0 ≤ i ∧ i < (M.length : Int) ∧ i.toNat < M.length ∧ n ≤ 1000002 := by
  obtain ⟨k, h1, h2, h3⟩ := h.ex
  have := row_pl h.row
  rw [h3] at this
  simp at this
  refine ⟨by omega, by omega, by omega, by omega⟩
theorem GeoB.next (h : GeoB a b M i O sp n c) (hM : M.length ≤ 1000001) (hi : i ≥ 0) (hr : Row (pl O ++ [iv (gbk a b (M.getD i.toNat (0, 0))).1, iv (gbk a b (M.getD i.toNat (0, 0))).2]) sp' (n + 1) c' 2) : GeoB a b M (w64 (i - 1)) (O ++ [gbk a b (M.getD i.toNat (0, 0))]) sp' (n + 1) c' := by
  obtain ⟨k, h1, h2, h3⟩ := h.ex
  refine ⟨⟨k + 1, by omega, ?_, ?_⟩, by rw [pl_snoc]; exact hr⟩
  · rw [w64_in (by omega) (by omega)]; omega
  · rw [h3, take_succ_getD (l := M.reverse) (i := k) (d := (0, 0)) (by simp; omega)]
    have : M.reverse.getD k (0, 0) = M.getD i.toNat (0, 0) := by
      have hk : k < M.length := by omega
      have e : i.toNat = M.length - 1 - k := by omega
      simp [List.getD, e, List.getElem?_reverse hk]
    rw [this]
    simp
theorem GeoB.mu (h : GeoB a b M i O sp n c) (hM : M.length ≤ 1000001) (hi : i ≥ 0) : (w64 (i - 1) + 1).toNat < (i + 1).toNat := by
  obtain ⟨k, h1, h2, h3⟩ := h.ex
  rw [w64_in (by omega) (by omega)]; omega
theorem GeoB.bd (h : GeoB a b M i O sp n c) (hM : M.length ≤ 1000001) : n ≤ 1000002 := by
  obtain ⟨k, h1, h2, h3⟩ := h.ex
  have := row_pl h.row
  rw [h3] at this
  simp at this
  omega
theorem GeoB.fin (h : GeoB a b M i O sp n c) (hi : ¬ i ≥ 0) : O = (a, b) :: M.reverse.map (gbk a b) := by
  obtain ⟨k, h1, h2, h3⟩ := h.ex
  rw [h3, List.take_of_length_le (by simp; omega)]
end
theorem geo_same {a b c d : Int} (h : MovOk a b c d) (hp : isPtF (movX a b c d) (movY a b c d) = true) (h1 : 1 ≤ movY a b c d) {M O : List (Int × Int)} (hM : M = (chn (movX a b c d, movY a b c d)).dropLast) (hO : O = (a, b) :: M.reverse.map (gbk a b)) : O = geoL a b c d := by
  subst hM
  have e := chn_last _ (x := (movX a b c d, movY a b c d)) (mov_fr h hp) h1 (Nat.le_refl _)
  rw [hO]
  unfold geoL
  conv => rhs; rw [e]
  rw [List.reverse_append, List.map_append]
  simp [bk_one h.fa]
theorem geo_self {a b : Int} (h : isFracF a b = true) : geoL a b a b = [(a, b)] := by
  obtain ⟨e1, e2⟩ := mov_self h
  unfold geoL
  rw [e1, e2, chn_zero fr_one (by decide)]
  simp [bk_one h]
theorem geo_bd {a b c d : Int} (h : MovOk a b c d) (hp : isPtF (movX a b c d) (movY a b c d) = true) : (geoL a b c d).length ≤ 1000001 := by
  have := chn_bd (x := (movX a b c d, movY a b c d)) (mov_fr h hp)
  unfold geoL
  simpa using this
end Go.Ev
