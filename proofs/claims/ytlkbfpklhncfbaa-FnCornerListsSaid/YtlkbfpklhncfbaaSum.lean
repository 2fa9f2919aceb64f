/-
  Sums of corners: the plain law.
  Conditions: none.
-/
import Derived.Test.YtlkbfpklhncfbaaLong
set_option linter.unusedVariables false
set_option linter.unusedSimpArgs false
namespace Go.Ev

/-- The fold p, q = c p + q, p, as long as p is a coordinate. -/
def ofGo : List Int → Int → Int → Option (Int × Int)
  | [], p, q => some (p, q)
  | c :: cs, p, q => if isCoordF (w64 (w64 (c * p) + q)) = true then ofGo cs (w64 (w64 (c * p) + q)) p else none
theorem ofGo_app : ∀ (vs ws : List Int) (p q : Int), ofGo (vs ++ ws) p q = (ofGo vs p q).bind fun s => ofGo ws s.1 s.2
  | [], ws, p, q => rfl
  | c :: vs, ws, p, q => by
    rw [List.cons_append, ofGo, ofGo]
    split
    · exact ofGo_app vs ws _ _
    · rfl
theorem isCoordF_iff {n : Int} : isCoordF n = true ↔ -1000000 ≤ n ∧ n ≤ 1000000 := by
  unfold isCoordF inF
  simp only [Bool.and_eq_true, decide_eq_true_eq, ge_iff_le]
theorem ofGo_bd : ∀ (vs : List Int) {p q x y : Int}, (∀ c ∈ vs, -1000001 ≤ c ∧ c ≤ 1000001) → (-1000000 ≤ p ∧ p ≤ 1000000) → (-1000000 ≤ q ∧ q ≤ 1000000) → Int.gcd q p = 1 → ofGo vs p q = some (x, y) →
    (-1000000 ≤ x ∧ x ≤ 1000000) ∧ (-1000000 ≤ y ∧ y ≤ 1000000) ∧ Int.gcd y x = 1
  | [], p, q, x, y, hv, hp, hq, hg, h => by cases h; exact ⟨hp, hq, hg⟩
  | c :: vs, p, q, x, y, hv, hp, hq, hg, h => by
    rw [ofGo] at h
    split at h
    · rename_i hc
      have hc' := isCoordF_iff.1 hc
      have hb := hv c (by simp)
      have hm := mul_abs (x := c) (y := p) (m := 1000001) (n := 1000000) hb.1 hb.2 hp.1 hp.2 (by omega)
      have e1 : w64 (c * p) = c * p := w64_in (by omega) (by omega)
      have e2 : w64 (c * p + q) = c * p + q := w64_in (by omega) (by omega)
      rw [e1, e2] at h hc'
      refine ofGo_bd vs (fun d hd => hv d (by simp [hd])) hc' hp ?_ h
      rw [Int.gcd_comm, Int.add_comm, Int.gcd_add_mul_right_left]
      exact hg
    · cases h

theorem expL_bd : ∀ (k : Nat) {p q : Int}, q.toNat ≤ k → 0 ≤ p → p ≤ 1000000 → q ≤ 1000000 → ∀ c ∈ expL p q, 0 ≤ c ∧ c ≤ 1000000
  | 0, p, q, hk, h1, h2, h3, c, hc => by rw [expL_zero (by omega)] at hc; cases hc
  | k + 1, p, q, hk, h1, h2, h3, c, hc => by
    by_cases hq : 0 < q
    · rw [expL_step hq] at hc
      have hm1 := Int.emod_nonneg p (show q ≠ 0 by omega)
      have hm2 := Int.emod_lt_of_pos p hq
      rcases List.mem_cons.1 hc with rfl | hc
      · have := ediv_abs (a := p) (b := q) (m := 1000000) hq (by omega) h2
        have h0 := Int.ediv_nonneg h1 (show 0 ≤ q by omega)
        omega
      · exact expL_bd k (by omega) (by omega) h3 (by omega) c hc
    · rw [expL_zero hq] at hc; cases hc
theorem longL_bd {xs : List Int} (h : ∀ c ∈ xs, 0 ≤ c ∧ c ≤ 1000000) : ∀ c ∈ longL xs, -1000001 ≤ c ∧ c ≤ 1000001 := by
  intro c hc
  unfold longL at hc
  split at hc
  · have := h c hc; omega
  · rcases List.mem_append.1 hc with hc | hc
    · have := h c (List.mem_of_mem_take hc); omega
    · have hl : 0 ≤ xs.getD (xs.length - 1) 0 ∧ xs.getD (xs.length - 1) 0 ≤ 1000000 := by
        rcases Nat.lt_or_ge (xs.length - 1) xs.length with h1 | h1
        · exact h _ (getD_mem h1)
        · have : xs = [] := List.length_eq_zero_iff.1 (by omega)
          subst this
          exact ⟨by decide, by decide⟩
      rcases List.mem_cons.1 hc with rfl | hc
      · rw [w64_in (by omega) (by omega)]; omega
      · rw [List.mem_singleton] at hc; subst hc; omega
theorem corn_long {a b c d : Int} (h : isCornF a b c d = true) (h2 : bigF a b c d = false) : ∀ x ∈ longL (expL (sineF a b c d) (cosF a b c d)), -1000001 ≤ x ∧ x ≤ 1000001 := by
  have h3 := (corn_exp h h2).1
  have h4 := sine_corn h
  exact longL_bd (expL_bd _ (Nat.le_refl _) (by omega) h3.hi h3.b1)

/-- The corner that is made of a list's fold. -/
theorem go_corn {vs : List Int} {p q : Int} (hv : ∀ c ∈ vs, -1000001 ≤ c ∧ c ≤ 1000001) (h : ofGo vs 1 0 = some (p, q)) (hp : ¬ p = 0) : isCornF 1 0 q p = true := by
  obtain ⟨h1, h2, h3⟩ := ofGo_bd vs hv (by omega) (by omega) (by decide) h
  have hdet : detF 1 0 q p = p := by
    unfold detF
    rw [Int.one_mul, Int.zero_mul, w64_in (n := p) (by omega) (by omega), w64_in (n := 0) (by omega) (by omega), Int.sub_zero, w64_in (by omega) (by omega)]
  have hpt : isPtF q p = true := isPtF_iff.2 (by omega)
  have hpr : primF q p = true := by
    unfold primF
    rw [gcdF_eq (by omega) (by omega), h3]; rfl
  unfold isCornF
  rw [hdet, hpt, hpr, show isPtF 1 0 = true from isPtF_iff.2 (by omega), show primF 1 0 = true by unfold primF; rw [gcdF_eq (by omega) (by omega)]; rfl, decide_eq_false hp]
  rfl

/-- The list of a sum. -/
def sumL (xs ys : List Int) (n : Int) : List Int := xs ++ [n] ++ ys
theorem sum_corn {a b c d e f g i n p q : Int} (h : isCornF a b c d = true) (h2 : bigF a b c d = false) (k : isCornF e f g i = true) (k2 : bigF e f g i = false) (hn : isCoordF n = true)
    (hgo : ofGo (sumL (longL (expL (sineF a b c d) (cosF a b c d))) (longL (expL (sineF e f g i) (cosF e f g i))) n).reverse 1 0 = some (p, q)) (hp : ¬ p = 0) : isCornF 1 0 q p = true := by
  refine go_corn (fun x hx => ?_) hgo hp
  rw [List.mem_reverse] at hx
  unfold sumL at hx
  rw [isCoordF_iff] at hn
  simp only [List.mem_append, List.mem_singleton] at hx
  rcases hx with (hx | hx) | hx
  · exact corn_long h h2 x hx
  · omega
  · exact corn_long k k2 x hx

/-! ## The reference's loop -/

/-- i: the index of the number that comes next; p, q: the fold of those behind it. -/
structure OfI (xs : List Int) (i p q : Int) : Prop where
  lo : -1 ≤ i
  hi : i < (xs.length : Int)
  eq : ofGo (xs.take (i + 1).toNat).reverse p q = ofGo xs.reverse 1 0
section
variable {xs : List Int} {i p q : Int}
theorem OfI.start (xs : List Int) (h : xs.length ≤ 1048576) : OfI xs (w64 ((xs.length : Int) - 1)) 1 0 := by
  rw [w64_in (by omega) (by omega)]
  refine ⟨by omega, by omega, ?_⟩
  rw [show ((xs.length : Int) - 1 + 1).toNat = xs.length by omega, List.take_length]
theorem OfI.take (h : OfI xs i p q) (h0 : i ≥ 0) : (xs.take (i + 1).toNat).reverse = xs.getD i.toNat 0 :: (xs.take i.toNat).reverse := by
  have := h.hi
  rw [show (i + 1).toNat = i.toNat + 1 by omega, take_succ_getD (d := 0) (by omega), List.reverse_append]; rfl
theorem OfI.next (h : OfI xs i p q) (hl : xs.length ≤ 1048576) (h0 : decide (i ≥ 0) = true) (hc : isCoordF (w64 (w64 (xs.getD i.toNat 0 * p) + q)) = true) : OfI xs (w64 (i - 1)) (w64 (w64 (xs.getD i.toNat 0 * p) + q)) p := by
  have h1 := of_decide_eq_true h0
  have h2 := h.hi
  rw [w64_in (n := i - 1) (by omega) (by omega)]
  refine ⟨by omega, by omega, ?_⟩
  rw [← h.eq, h.take h1, ofGo, if_pos hc, show i - 1 + 1 = i by omega]
theorem OfI.stop (h : OfI xs i p q) (h0 : decide (i ≥ 0) = true) (hc : isCoordF (w64 (w64 (xs.getD i.toNat 0 * p) + q)) = false) : ofGo xs.reverse 1 0 = none := by
  rw [← h.eq, h.take (of_decide_eq_true h0), ofGo, hc]; rfl
theorem OfI.fin (h : OfI xs i p q) (h0 : decide (i ≥ 0) = false) : ofGo xs.reverse 1 0 = some (p, q) := by
  have h1 := of_decide_eq_false h0
  have h2 := h.lo
  rw [← h.eq, show (i + 1).toNat = 0 by omega]; rfl
theorem OfI.mu (h : OfI xs i p q) (hl : xs.length ≤ 1048576) (h0 : decide (i ≥ 0) = true) : (w64 (i - 1) + 1).toNat < (i + 1).toNat := by
  have h1 := of_decide_eq_true h0
  have h2 := h.hi
  rw [w64_in (by omega) (by omega)]; omega
end

end Go.Ev
