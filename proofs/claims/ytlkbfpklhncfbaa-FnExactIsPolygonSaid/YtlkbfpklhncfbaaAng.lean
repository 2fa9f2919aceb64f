/-
  Angles of sequences: the plain law; copies of lists.
  Conditions: none.
-/
import Derived.Test.YtlkbfpklhncfbaaArg
import Derived.Test.YtlkbfpklhncfbaaCorn
import Derived.Test.YtlkbfpklhncfbaaConv
set_option linter.unusedVariables false
set_option linter.unusedSimpArgs false
namespace Go.Ev
open Go.RowKit

/-! ### Copies -/

theorem zeros_il : ∀ (n : Nat), zeros n [iv 0] = il (List.replicate n 0)
  | 0 => rfl
  | n + 1 => by
    rw [zeros, zeros_il n, List.replicate_succ', il_snoc]
theorem il_row (xs : List Int) : Row (il xs) [] xs.length xs.length 1 := ⟨by rw [il_len, Nat.mul_one], by rw [il_len]; simp, il_plain _, Plain.nil⟩

theorem take_away_il {xs : List Int} {sp : List Value} {off o i : Nat} (ho : o = off + i) (hi : i < xs.length) : List.take 1 (List.drop o (away off (il xs ++ sp))) = [iv (xs.getD i 0)] := by
  subst ho
  rw [take_away]
  exact take_il rfl hi
theorem set_il {off : Nat} {xs ys : List Int} {sp : List Value} {v : Int} {k : List Value → Prop} (h : off < xs.length) (hy : xs.set off v = ys) (hk : k (il ys ++ sp)) : forceL (splice (il xs ++ sp) off [iv v]) k := by
  refine force_set (by rw [List.length_append, il_len]; omega) ?_
  rw [List.set_append_left _ _ (by rw [il_len]; exact h), show (il xs).set off (iv v) = il (xs.set off v) by simp [il, List.map_set], hy]
  exact hk

/-- The state of a loop that copies xs: i numbers are copied. -/
structure CpyI (xs : List Int) (i : Int) (C : List Int) : Prop where
  lo : 0 ≤ i
  hi : i ≤ (xs.length : Int)
  len : C.length = xs.length
  eq : C = xs.take i.toNat ++ List.replicate (xs.length - i.toNat) 0
theorem CpyI.start (xs : List Int) : CpyI xs 0 (List.replicate xs.length 0) := ⟨by omega, by omega, by simp, by simp⟩
theorem CpyI.next {xs C : List Int} {i : Int} (h : CpyI xs i C) (hi : i < (xs.length : Int)) (hl : xs.length ≤ 1048576) {o : Nat} (ho : o = i.toNat) {v : Int} (hv : v = xs.getD i.toNat 0) : CpyI xs (w64 (i + 1)) (C.set o v) := by
  subst ho hv
  have h0 := h.lo
  rw [w64_in (by omega) (by omega)]
  refine ⟨by omega, by omega, by rw [List.length_set]; exact h.len, ?_⟩
  rw [h.eq, show (i + 1).toNat = i.toNat + 1 by omega, take_succ_getD (d := 0) (by omega), List.append_assoc]
  rw [List.set_append_right _ _ (by rw [List.length_take]; omega), List.length_take]
  congr 1
  rw [show i.toNat - min i.toNat xs.length = 0 by omega, show xs.length - i.toNat = (xs.length - (i.toNat + 1)) + 1 by omega, List.replicate_succ]
  rfl
theorem CpyI.fin {xs C : List Int} {i : Int} (h : CpyI xs i C) (hi : ¬ i < (xs.length : Int)) : C = xs := by
  have h1 := h.hi; have h0 := h.lo
  rw [h.eq, show i.toNat = xs.length by omega]
  simp

/-! ### The first number with a property -/

def idxI (p : Int → Bool) : List Int → Int → Int
  | [], _ => -1
  | x :: xs, k => if p x = true then k else idxI p xs (k + 1)
theorem idxI_ge (p : Int → Bool) : ∀ (xs : List Int) (k : Int), 0 ≤ k → decide (idxI p xs k ≥ 0) = xs.any p
  | [], k, hk => by simp [idxI]
  | x :: xs, k, hk => by
    rw [idxI, List.any_cons]
    cases h : p x
    · simp only [Bool.false_eq_true, if_false, Bool.false_or]
      exact idxI_ge p xs (k + 1) (by omega)
    · simp only [if_true, Bool.true_or, decide_eq_true_eq]; omega
structure FirI (p : Int → Bool) (xs : List Int) (i : Int) : Prop where
  lo : 0 ≤ i
  hi : i ≤ (xs.length : Int)
  eq : idxI p (xs.drop i.toNat) i = idxI p xs 0
theorem FirI.start (p : Int → Bool) (xs : List Int) : FirI p xs 0 := ⟨by omega, by omega, rfl⟩
theorem drop_atI {xs : List Int} {k : Nat} (h : k < xs.length) : xs.drop k = xs.getD k 0 :: xs.drop (k + 1) := by
  rw [List.drop_eq_getElem_cons h]
  simp [List.getD, h]
theorem FirI.hit {p : Int → Bool} {xs : List Int} {i : Int} (h : FirI p xs i) (hi : i < (xs.length : Int)) (hp : p (xs.getD i.toNat 0) = true) : idxI p xs 0 = i := by
  have h0 := h.lo
  rw [← h.eq, drop_atI (by omega), idxI, if_pos hp]
theorem FirI.next {p : Int → Bool} {xs : List Int} {i : Int} (h : FirI p xs i) (hi : i < (xs.length : Int)) (hl : xs.length ≤ 1048576) (hp : p (xs.getD i.toNat 0) = false) : FirI p xs (w64 (i + 1)) := by
  have h0 := h.lo
  rw [w64_in (by omega) (by omega)]
  refine ⟨by omega, by omega, ?_⟩
  rw [← h.eq, drop_atI (k := i.toNat) (by omega), idxI, hp, show (i + 1).toNat = i.toNat + 1 by omega]
  rfl
theorem FirI.fin {p : Int → Bool} {xs : List Int} {i : Int} (h : FirI p xs i) (hi : ¬ i < (xs.length : Int)) : idxI p xs 0 = -1 := by
  have h0 := h.hi
  rw [← h.eq, List.drop_eq_nil_of_le (by omega)]
  rfl

theorem FirI.no {p : Int → Bool} {xs : List Int} {i : Int} (h : FirI p xs i) (hi : i < (xs.length : Int)) (hx : xs.any p = false) : p (xs.getD i.toNat 0) = false := by
  have h0 := h.lo
  have hm : xs.getD i.toNat 0 ∈ xs := getD_mem (by omega)
  have := List.any_eq_false.1 hx _ hm
  simpa using this
theorem FirI.never {p : Int → Bool} {xs : List Int} {i : Int} (h : FirI p xs i) (hi : ¬ i < (xs.length : Int)) (hx : xs.any p = true) : False := by
  have h1 := h.fin hi
  have h2 := idxI_ge p xs 0 (by omega)
  rw [h1, hx] at h2
  simp at h2
theorem FirI.mu {p : Int → Bool} {xs : List Int} {i : Int} (h : FirI p xs i) (hi : i < (xs.length : Int)) (hl : xs.length ≤ 1048576) : ((xs.length : Int) - w64 (i + 1)).toNat < ((xs.length : Int) - i).toNat := by
  have h0 := h.lo
  rw [w64_in (by omega) (by omega)]; omega

/-! ### Angles -/

def lowP (n : Int) : Bool := decide (n < 1)
def bigP (n : Int) : Bool := decide (n > 1000000)
/-- What is left of the numbers, and whether it is a length's turn; the point and the direction. -/
def angF : List Int → Bool → Int → Int → Int → Int → Option (Int × Int)
  | [], _, p, q, _, _ => some (p, q)
  | x :: xs, true, p, q, r, s => if x ≤ 1000000 ∧ isPtF (p + x * r) (q + x * s) = true then angF xs false (p + x * r) (q + x * s) r s else none
  | x :: xs, false, p, q, r, s => if x ≤ 1000000 ∧ isPtF (r + x * p) (s + x * q) = true then angF xs true p q (r + x * p) (s + x * q) else none
def angG : List Int → Bool → Int → Int → Int → Int → Option (Int × Int)
  | [], _, p, q, _, _ => some (p, q)
  | x :: xs, true, p, q, r, s => if isPtF (p + x * r) (q + x * s) = true then angG xs false (p + x * r) (q + x * s) r s else none
  | x :: xs, false, p, q, r, s => if isPtF (p + (r + x * p)) (q + (s + x * q)) = true then angG xs true p q (r + x * p) (s + x * q) else none
theorem angF_big : ∀ (xs : List Int) (b : Bool) (p q r s : Int), xs.any bigP = true → angF xs b p q r s = none
  | [], b, p, q, r, s, h => by simp at h
  | x :: xs, b, p, q, r, s, h => by
    rw [List.any_cons, Bool.or_eq_true] at h
    cases b
    · rw [angF]
      split
      · rename_i hc
        rcases h with h | h
        · have := of_decide_eq_true h; omega
        · exact angF_big xs _ _ _ _ _ h
      · rfl
    · rw [angF]
      split
      · rename_i hc
        rcases h with h | h
        · have := of_decide_eq_true h; omega
        · exact angF_big xs _ _ _ _ _ h
      · rfl
structure Nn (p q r s : Int) : Prop where
  p : 0 ≤ p
  q : 0 ≤ q
  r : 0 ≤ r
  s : 0 ≤ s
theorem ang_same : ∀ (n : Nat) (xs : List Int) (p q r s : Int), xs.length ≤ n → xs.length % 2 = 1 → (∀ x ∈ xs, 1 ≤ x ∧ x ≤ 1000000) → Nn p q r s → angF xs true p q r s = angG xs true p q r s
  | 0, xs, p, q, r, s, hn, ho, hx, hp => by omega
  | n + 1, [], p, q, r, s, hn, ho, hx, hp => by simp at ho
  | n + 1, [x], p, q, r, s, hn, ho, hx, hp => by
    have := hx x (by simp)
    rw [angF, angG]
    simp only [this.2, true_and, angF, angG]
  | n + 1, [x, y], p, q, r, s, hn, ho, hx, hp => by simp at ho
  | n + 1, x :: y :: z :: xs, p, q, r, s, hn, ho, hx, hp => by
    have h1 := hx x (by simp); have h2 := hx y (by simp); have h3 := hx z (by simp)
    obtain ⟨k1, k2, k3, k4⟩ := hp
    have e1 : 0 ≤ x * r := Int.mul_nonneg (by omega) k3
    have e2 : 0 ≤ x * s := Int.mul_nonneg (by omega) k4
    rw [angF, angG]
    simp only [h1.2, true_and]
    split
    · rw [angF, angG]
      simp only [h2.2, true_and]
      generalize hP : p + x * r = P at *
      generalize hQ : q + x * s = Q at *
      have e3 : 0 ≤ y * P := Int.mul_nonneg (by omega) (by omega)
      have e4 : 0 ≤ y * Q := Int.mul_nonneg (by omega) (by omega)
      generalize hR : r + y * P = R at *
      generalize hS : s + y * Q = S at *
      have hn2 : Nn P Q R S := ⟨by omega, by omega, by omega, by omega⟩
      by_cases hb : isPtF (P + R) (Q + S) = true
      · have hrs : isPtF R S = true := by rw [isPtF_iff] at *; omega
        rw [if_pos hrs, if_pos hb]
        exact ang_same n (z :: xs) _ _ _ _ (by simp at hn ⊢; omega) (by simp at ho ⊢; omega) (fun u hu => hx u (List.mem_cons_of_mem _ (List.mem_cons_of_mem _ hu))) hn2
      · rw [if_neg hb]
        split
        · rw [angF]
          have u1 : 1 * R ≤ z * R := Int.mul_le_mul_of_nonneg_right h3.1 (by omega)
          have u2 : 1 * S ≤ z * S := Int.mul_le_mul_of_nonneg_right h3.1 (by omega)
          have : ¬ isPtF (P + z * R) (Q + z * S) = true := fun hh => hb (by rw [isPtF_iff] at *; omega)
          rw [if_neg (fun hh => this hh.2)]
        · rfl
    · rfl

/-- The state of the spec's loop. -/
structure AngS (xs : List Int) (i : Int) (p q r s : Int) : Prop where
  lo : 0 ≤ i
  hi : i ≤ (xs.length : Int)
  nn : Nn p q r s
  pt : isPtF p q = true
  pt2 : isPtF r s = true
  eq : angF (xs.drop i.toNat) (decide (i % 2 = 0)) p q r s = angF xs true 1 0 0 1
theorem AngS.start (xs : List Int) : AngS xs 0 1 0 0 1 := ⟨by omega, by omega, ⟨by omega, by omega, by omega, by omega⟩, by rw [isPtF_iff]; omega, by rw [isPtF_iff]; omega, rfl⟩
theorem ang_plus {a x b : Int} (ha : 0 ≤ a) (ha2 : a ≤ 1000000) (hb : 0 ≤ b) (hb2 : b ≤ 1000000) (hx : 1 ≤ x) (hx2 : x ≤ 1000000) : plusF a x b = a + x * b := by
  have := mul_abs_le (x := x) (y := b) (m := 1000000) (n := 1000000) (by omega) hx2 hb hb2 (by omega)
  unfold plusF
  rw [w64_in (n := x * b) (by omega) (by omega), w64_in (by omega) (by omega)]
section
variable {xs : List Int} {i p q r s : Int}
theorem AngS.x (h : AngS xs i p q r s) (hi : i < (xs.length : Int)) (hx : xs.any lowP = false) : 1 ≤ xs.getD i.toNat 0 := by
  have h0 := h.lo
  have hm : xs.getD i.toNat 0 ∈ xs := getD_mem (by omega)
  have := List.any_eq_false.1 hx _ hm
  simp only [lowP, decide_eq_true_eq] at this
  omega
theorem AngS.even (h : AngS xs i p q r s) (hi : i < (xs.length : Int)) (hx : xs.any lowP = false) (hb : ¬ xs.getD i.toNat 0 > 1000000) (he : i.tmod 2 = 0) :
    plusF p (xs.getD i.toNat 0) r = p + xs.getD i.toNat 0 * r ∧ plusF q (xs.getD i.toNat 0) s = q + xs.getD i.toNat 0 * s ∧ angF (xs.drop i.toNat) (decide (i % 2 = 0)) p q r s = (if isPtF (plusF p (xs.getD i.toNat 0) r) (plusF q (xs.getD i.toNat 0) s) = true then angF (xs.drop (i.toNat + 1)) false (plusF p (xs.getD i.toNat 0) r) (plusF q (xs.getD i.toNat 0) s) r s else none) := by
  have h0 := h.lo
  have hx1 := h.x hi hx
  have p1 := isPtF_iff.1 h.pt; have p2 := isPtF_iff.1 h.pt2
  obtain ⟨k1, k2, k3, k4⟩ := h.nn
  have e1 := ang_plus (a := p) (x := xs.getD i.toNat 0) (b := r) k1 (by omega) k3 (by omega) hx1 (by omega)
  have e2 := ang_plus (a := q) (x := xs.getD i.toNat 0) (b := s) k2 (by omega) k4 (by omega) hx1 (by omega)
  rw [tmod_pos h0] at he
  refine ⟨e1, e2, ?_⟩
  rw [e1, e2, drop_atI (k := i.toNat) (by omega), show decide (i % 2 = 0) = true from decide_eq_true he, angF]
  have hle : xs.getD i.toNat 0 ≤ 1000000 := by omega
  simp only [hle, true_and]
theorem AngS.odd (h : AngS xs i p q r s) (hi : i < (xs.length : Int)) (hx : xs.any lowP = false) (hb : ¬ xs.getD i.toNat 0 > 1000000) (he : ¬ i.tmod 2 = 0) :
    plusF r (xs.getD i.toNat 0) p = r + xs.getD i.toNat 0 * p ∧ plusF s (xs.getD i.toNat 0) q = s + xs.getD i.toNat 0 * q ∧ angF (xs.drop i.toNat) (decide (i % 2 = 0)) p q r s = (if isPtF (plusF r (xs.getD i.toNat 0) p) (plusF s (xs.getD i.toNat 0) q) = true then angF (xs.drop (i.toNat + 1)) true p q (plusF r (xs.getD i.toNat 0) p) (plusF s (xs.getD i.toNat 0) q) else none) := by
  have h0 := h.lo
  have hx1 := h.x hi hx
  have p1 := isPtF_iff.1 h.pt; have p2 := isPtF_iff.1 h.pt2
  obtain ⟨k1, k2, k3, k4⟩ := h.nn
  have e1 := ang_plus (a := r) (x := xs.getD i.toNat 0) (b := p) k3 (by omega) k1 (by omega) hx1 (by omega)
  have e2 := ang_plus (a := s) (x := xs.getD i.toNat 0) (b := q) k4 (by omega) k2 (by omega) hx1 (by omega)
  rw [tmod_pos h0] at he
  refine ⟨e1, e2, ?_⟩
  rw [e1, e2, drop_atI (k := i.toNat) (by omega), show decide (i % 2 = 0) = false from decide_eq_false he, angF]
  have hle : xs.getD i.toNat 0 ≤ 1000000 := by omega
  simp only [hle, true_and]
theorem AngS.nextE (h : AngS xs i p q r s) (hi : i < (xs.length : Int)) (hl : xs.length ≤ 60) (hx : xs.any lowP = false) (hb : ¬ xs.getD i.toNat 0 > 1000000) (he : i.tmod 2 = 0) (hp : isPtF (plusF p (xs.getD i.toNat 0) r) (plusF q (xs.getD i.toNat 0) s) = true) :
    AngS xs (w64 (i + 1)) (plusF p (xs.getD i.toNat 0) r) (plusF q (xs.getD i.toNat 0) s) r s := by
  have h0 := h.lo
  have hx1 := h.x hi hx
  obtain ⟨e1, e2, e3⟩ := h.even hi hx hb he
  obtain ⟨k1, k2, k3, k4⟩ := h.nn
  have m1 : 0 ≤ xs.getD i.toNat 0 * r := Int.mul_nonneg (by omega) k3
  have m2 : 0 ≤ xs.getD i.toNat 0 * s := Int.mul_nonneg (by omega) k4
  rw [if_pos hp] at e3
  rw [w64_in (by omega) (by omega)]
  refine ⟨by omega, by omega, ⟨by omega, by omega, k3, k4⟩, hp, h.pt2, ?_⟩
  rw [← h.eq, e3, show (i + 1).toNat = i.toNat + 1 by omega]
  rw [tmod_pos h0] at he
  rw [show decide ((i + 1) % 2 = 0) = false from decide_eq_false (by omega)]
theorem AngS.nextO (h : AngS xs i p q r s) (hi : i < (xs.length : Int)) (hl : xs.length ≤ 60) (hx : xs.any lowP = false) (hb : ¬ xs.getD i.toNat 0 > 1000000) (he : ¬ i.tmod 2 = 0) (hp : isPtF (plusF r (xs.getD i.toNat 0) p) (plusF s (xs.getD i.toNat 0) q) = true) :
    AngS xs (w64 (i + 1)) p q (plusF r (xs.getD i.toNat 0) p) (plusF s (xs.getD i.toNat 0) q) := by
  have h0 := h.lo
  have hx1 := h.x hi hx
  obtain ⟨e1, e2, e3⟩ := h.odd hi hx hb he
  obtain ⟨k1, k2, k3, k4⟩ := h.nn
  have m1 : 0 ≤ xs.getD i.toNat 0 * p := Int.mul_nonneg (by omega) k1
  have m2 : 0 ≤ xs.getD i.toNat 0 * q := Int.mul_nonneg (by omega) k2
  rw [if_pos hp] at e3
  rw [w64_in (by omega) (by omega)]
  refine ⟨by omega, by omega, ⟨k1, k2, by omega, by omega⟩, h.pt, hp, ?_⟩
  rw [← h.eq, e3, show (i + 1).toNat = i.toNat + 1 by omega]
  rw [tmod_pos h0] at he
  rw [show decide ((i + 1) % 2 = 0) = true from decide_eq_true (by omega)]
theorem AngS.failE (h : AngS xs i p q r s) (hi : i < (xs.length : Int)) (hx : xs.any lowP = false) (hb : ¬ xs.getD i.toNat 0 > 1000000) (he : i.tmod 2 = 0) (hp : isPtF (plusF p (xs.getD i.toNat 0) r) (plusF q (xs.getD i.toNat 0) s) = false) : angF xs true 1 0 0 1 = none := by
  obtain ⟨e1, e2, e3⟩ := h.even hi hx hb he
  rw [← h.eq, e3, if_neg (by rw [hp]; decide)]
theorem AngS.failO (h : AngS xs i p q r s) (hi : i < (xs.length : Int)) (hx : xs.any lowP = false) (hb : ¬ xs.getD i.toNat 0 > 1000000) (he : ¬ i.tmod 2 = 0) (hp : isPtF (plusF r (xs.getD i.toNat 0) p) (plusF s (xs.getD i.toNat 0) q) = false) : angF xs true 1 0 0 1 = none := by
  obtain ⟨e1, e2, e3⟩ := h.odd hi hx hb he
  rw [← h.eq, e3, if_neg (by rw [hp]; decide)]
theorem AngS.failB (h : AngS xs i p q r s) (hi : i < (xs.length : Int)) (hb : xs.getD i.toNat 0 > 1000000) : angF xs true 1 0 0 1 = none := by
  have h0 := h.lo
  refine angF_big _ _ _ _ _ _ ?_
  rw [List.any_eq_true]
  exact ⟨_, getD_mem (show i.toNat < xs.length by omega), decide_eq_true hb⟩
theorem AngS.fin (h : AngS xs i p q r s) (hi : ¬ i < (xs.length : Int)) : angF xs true 1 0 0 1 = some (p, q) := by
  have h1 := h.hi
  rw [← h.eq, List.drop_eq_nil_of_le (by omega), angF]
end


/-! ### The program's loops -/

structure AngM (xs : List Int) (R : Option (Int × Int)) (i b0 b1 n0 n1 : Int) : Prop where
  lo : 0 ≤ i
  hi : i ≤ (xs.length : Int)
  f0 : 0 ≤ b0 ∧ b0 ≤ n0
  f1 : 0 ≤ b1 ∧ b1 ≤ n1
  pt : isPtF n0 n1 = true
  ev : i % 2 = 0 → angG (xs.drop i.toNat) true b0 b1 (n0 - b0) (n1 - b1) = R
  od : ¬ i % 2 = 0 → angG (xs.drop i.toNat) false n0 n1 (n0 - b0) (n1 - b1) = R
theorem AngM.start {xs : List Int} {R : Option (Int × Int)} (h : angG xs true 1 0 0 1 = R) : AngM xs R 0 1 0 1 1 :=
  ⟨by omega, by omega, by omega, by omega, by rw [isPtF_iff]; omega, fun _ => h, fun hh => by omega⟩
/-- The loop in a length: j steps are done. -/
structure AngJ (x b0 b1 n0 n1 : Int) (j c0 c1 m0 m1 : Int) : Prop where
  lo : 0 ≤ j
  hi : j ≤ x - 1
  e0 : c0 = b0 + j * (n0 - b0)
  e1 : c1 = b1 + j * (n1 - b1)
  e2 : m0 = n0 + j * (n0 - b0)
  e3 : m1 = n1 + j * (n1 - b1)
  pt : isPtF m0 m1 = true
section
variable {xs : List Int} {R : Option (Int × Int)} {i b0 b1 n0 n1 j c0 c1 m0 m1 : Int}
theorem AngM.x (h : AngM xs R i b0 b1 n0 n1) (hi : i < (xs.length : Int)) (hx : xs.any lowP = false) (hb : xs.any bigP = false) : 1 ≤ xs.getD i.toNat 0 ∧ xs.getD i.toNat 0 ≤ 1000000 := by
  have h0 := h.lo
  have hm : xs.getD i.toNat 0 ∈ xs := getD_mem (by omega)
  have h1 := List.any_eq_false.1 hx _ hm
  have h2 := List.any_eq_false.1 hb _ hm
  simp only [lowP, bigP, decide_eq_true_eq] at h1 h2
  omega
theorem AngJ.start (h : AngM xs R i b0 b1 n0 n1) (hi : i < (xs.length : Int)) (hx : xs.any lowP = false) (hb : xs.any bigP = false) : AngJ (xs.getD i.toNat 0) b0 b1 n0 n1 0 b0 b1 n0 n1 :=
  ⟨by omega, by have := (h.x hi hx hb).1; omega, by omega, by omega, by omega, by omega, h.pt⟩
/-- The next point in a length. -/
theorem AngJ.val (h : AngM xs R i b0 b1 n0 n1) (k : AngJ (xs.getD i.toNat 0) b0 b1 n0 n1 j c0 c1 m0 m1) :
    plusF (plusF 0 (-1) c0) 2 m0 = n0 + (j + 1) * (n0 - b0) ∧ plusF (plusF 0 (-1) c1) 2 m1 = n1 + (j + 1) * (n1 - b1) := by
  have h1 := h.f0; have h2 := h.f1; have hp := isPtF_iff.1 k.pt
  have k0 := k.lo
  have u1 : 0 ≤ j * (n0 - b0) := Int.mul_nonneg k0 (by omega)
  have u2 : 0 ≤ j * (n1 - b1) := Int.mul_nonneg k0 (by omega)
  have v1 := k.e0; have v2 := k.e1; have v3 := k.e2; have v4 := k.e3
  have w1 : (j + 1) * (n0 - b0) = j * (n0 - b0) + (n0 - b0) := by rw [Int.add_mul, Int.one_mul]
  have w2 : (j + 1) * (n1 - b1) = j * (n1 - b1) + (n1 - b1) := by rw [Int.add_mul, Int.one_mul]
  rw [plusF_neg, plusF_neg]
  unfold plusF
  rw [w64_in (n := 0 - c0) (by omega) (by omega), w64_in (n := 0 - c1) (by omega) (by omega), w64_in (n := 2 * m0) (by omega) (by omega), w64_in (n := 2 * m1) (by omega) (by omega), w64_in (by omega) (by omega), w64_in (by omega) (by omega)]
  omega
theorem AngJ.next (h : AngM xs R i b0 b1 n0 n1) (k : AngJ (xs.getD i.toNat 0) b0 b1 n0 n1 j c0 c1 m0 m1) (hx : xs.getD i.toNat 0 ≤ 1000000) (hj : j < w64 (xs.getD i.toNat 0 - 1)) (hp : isPtF (plusF (plusF 0 (-1) c0) 2 m0) (plusF (plusF 0 (-1) c1) 2 m1) = true) :
    AngJ (xs.getD i.toNat 0) b0 b1 n0 n1 (w64 (j + 1)) m0 m1 (plusF (plusF 0 (-1) c0) 2 m0) (plusF (plusF 0 (-1) c1) 2 m1) := by
  have k0 := k.lo
  have v := AngJ.val h k
  have khi := k.hi
  rw [w64_in (by omega) (by omega)] at hj
  rw [w64_in (n := j + 1) (by omega) (by omega)]
  have w1 : (j + 1) * (n0 - b0) = j * (n0 - b0) + (n0 - b0) := by rw [Int.add_mul, Int.one_mul]
  have w2 : (j + 1) * (n1 - b1) = j * (n1 - b1) + (n1 - b1) := by rw [Int.add_mul, Int.one_mul]
  refine ⟨by omega, by omega, ?_, ?_, v.1, v.2, hp⟩
  · have := k.e2; omega
  · have := k.e3; omega
theorem AngJ.mu (k : AngJ (xs.getD i.toNat 0) b0 b1 n0 n1 j c0 c1 m0 m1) (hx : xs.getD i.toNat 0 ≤ 1000000) (hj : j < w64 (xs.getD i.toNat 0 - 1)) : (xs.getD i.toNat 0 - w64 (j + 1)).toNat < (xs.getD i.toNat 0 - j).toNat := by
  have k0 := k.lo; have khi := k.hi
  rw [w64_in (by omega) (by omega)] at hj ⊢; omega
theorem even_step (h : AngM xs R i b0 b1 n0 n1) (hi : i < (xs.length : Int)) (he : ¬ i.tmod 2 = 1) : i % 2 = 0 ∧ (if isPtF (b0 + xs.getD i.toNat 0 * (n0 - b0)) (b1 + xs.getD i.toNat 0 * (n1 - b1)) = true then angG (xs.drop (i.toNat + 1)) false (b0 + xs.getD i.toNat 0 * (n0 - b0)) (b1 + xs.getD i.toNat 0 * (n1 - b1)) (n0 - b0) (n1 - b1) else none) = R := by
  have h0 := h.lo
  rw [tmod_pos h0] at he
  have hev : i % 2 = 0 := by omega
  have := h.ev hev
  rw [drop_atI (k := i.toNat) (by omega), angG] at this
  exact ⟨hev, this⟩
theorem AngJ.fail (h : AngM xs R i b0 b1 n0 n1) (k : AngJ (xs.getD i.toNat 0) b0 b1 n0 n1 j c0 c1 m0 m1) (hi : i < (xs.length : Int)) (he : ¬ i.tmod 2 = 1) (hx : xs.getD i.toNat 0 ≤ 1000000) (hj : j < w64 (xs.getD i.toNat 0 - 1)) (hp : isPtF (plusF (plusF 0 (-1) c0) 2 m0) (plusF (plusF 0 (-1) c1) 2 m1) = false) : R = none := by
  have k0 := k.lo
  have v := AngJ.val h k
  have khi := k.hi
  rw [w64_in (by omega) (by omega)] at hj
  have h1 := h.f0; have h2 := h.f1
  obtain ⟨hev, hs⟩ := even_step h hi he
  have u1 : (j + 2) * (n0 - b0) ≤ xs.getD i.toNat 0 * (n0 - b0) := Int.mul_le_mul_of_nonneg_right (by omega) (by omega)
  have u2 : (j + 2) * (n1 - b1) ≤ xs.getD i.toNat 0 * (n1 - b1) := Int.mul_le_mul_of_nonneg_right (by omega) (by omega)
  have w1 : (j + 1) * (n0 - b0) = j * (n0 - b0) + (n0 - b0) := by rw [Int.add_mul, Int.one_mul]
  have w2 : (j + 1) * (n1 - b1) = j * (n1 - b1) + (n1 - b1) := by rw [Int.add_mul, Int.one_mul]
  have w3 : (j + 2) * (n0 - b0) = j * (n0 - b0) + 2 * (n0 - b0) := Int.add_mul ..
  have w4 : (j + 2) * (n1 - b1) = j * (n1 - b1) + 2 * (n1 - b1) := Int.add_mul ..
  have q1 : 0 ≤ j * (n0 - b0) := Int.mul_nonneg k0 (by omega)
  have q2 : 0 ≤ j * (n1 - b1) := Int.mul_nonneg k0 (by omega)
  have hnp : ¬ isPtF (b0 + xs.getD i.toNat 0 * (n0 - b0)) (b1 + xs.getD i.toNat 0 * (n1 - b1)) = true := fun hh => by
    have : isPtF (plusF (plusF 0 (-1) c0) 2 m0) (plusF (plusF 0 (-1) c1) 2 m1) = true := by
      rw [v.1, v.2, isPtF_iff] at *
      omega
    rw [hp] at this
    cases this
  rw [if_neg hnp] at hs
  exact hs.symm
theorem AngM.nextE (h : AngM xs R i b0 b1 n0 n1) (k : AngJ (xs.getD i.toNat 0) b0 b1 n0 n1 j c0 c1 m0 m1) (hi : i < (xs.length : Int)) (hl : xs.length ≤ 60) (he : ¬ i.tmod 2 = 1) (hx : xs.getD i.toNat 0 ≤ 1000000) (hj : ¬ j < w64 (xs.getD i.toNat 0 - 1)) : AngM xs R (w64 (i + 1)) c0 c1 m0 m1 := by
  have h0 := h.lo
  have k0 := k.lo
  have khi := k.hi
  have h1 := h.f0; have h2 := h.f1
  rw [w64_in (by omega) (by omega)] at hj
  have hjx : j = xs.getD i.toNat 0 - 1 := by omega
  obtain ⟨hev, hs⟩ := even_step h hi he
  have v1 := k.e0; have v2 := k.e1; have v3 := k.e2; have v4 := k.e3
  have q1 : 0 ≤ j * (n0 - b0) := Int.mul_nonneg k0 (by omega)
  have q2 : 0 ≤ j * (n1 - b1) := Int.mul_nonneg k0 (by omega)
  have w1 : xs.getD i.toNat 0 * (n0 - b0) = j * (n0 - b0) + (n0 - b0) := by
    have : xs.getD i.toNat 0 = j + 1 := by omega
    rw [this, Int.add_mul, Int.one_mul]
  have w2 : xs.getD i.toNat 0 * (n1 - b1) = j * (n1 - b1) + (n1 - b1) := by
    have : xs.getD i.toNat 0 = j + 1 := by omega
    rw [this, Int.add_mul, Int.one_mul]
  have e1 : b0 + xs.getD i.toNat 0 * (n0 - b0) = m0 := by omega
  have e2 : b1 + xs.getD i.toNat 0 * (n1 - b1) = m1 := by omega
  have e3 : m0 - c0 = n0 - b0 := by omega
  have e4 : m1 - c1 = n1 - b1 := by omega
  rw [e1, e2, if_pos k.pt] at hs
  rw [w64_in (by omega) (by omega)]
  refine ⟨by omega, by omega, by omega, by omega, k.pt, fun hh => by omega, fun _ => ?_⟩
  rw [e3, e4, show (i + 1).toNat = i.toNat + 1 by omega]
  exact hs
theorem AngM.oddv (h : AngM xs R i b0 b1 n0 n1) (hx : 1 ≤ xs.getD i.toNat 0 ∧ xs.getD i.toNat 0 ≤ 1000000) :
    plusF (plusF 0 (-1) b0) (w64 (xs.getD i.toNat 0 + 2)) n0 = n0 + (n0 - b0 + xs.getD i.toNat 0 * n0) ∧ plusF (plusF 0 (-1) b1) (w64 (xs.getD i.toNat 0 + 2)) n1 = n1 + (n1 - b1 + xs.getD i.toNat 0 * n1) := by
  have h1 := h.f0; have h2 := h.f1; have hp := isPtF_iff.1 h.pt
  have u1 := mul_abs_le (x := xs.getD i.toNat 0) (y := n0) (m := 1000000) (n := 1000000) (by omega) (by omega) (by omega) (by omega) (by omega)
  have u2 := mul_abs_le (x := xs.getD i.toNat 0) (y := n1) (m := 1000000) (n := 1000000) (by omega) (by omega) (by omega) (by omega) (by omega)
  rw [plusF_neg, plusF_neg, w64_in (n := xs.getD i.toNat 0 + 2) (by omega) (by omega)]
  unfold plusF
  have w1 : (xs.getD i.toNat 0 + 2) * n0 = xs.getD i.toNat 0 * n0 + 2 * n0 := Int.add_mul ..
  have w2 : (xs.getD i.toNat 0 + 2) * n1 = xs.getD i.toNat 0 * n1 + 2 * n1 := Int.add_mul ..
  rw [w1, w2, w64_in (n := 0 - b0) (by omega) (by omega), w64_in (n := 0 - b1) (by omega) (by omega), w64_in (n := xs.getD i.toNat 0 * n0 + 2 * n0) (by omega) (by omega), w64_in (n := xs.getD i.toNat 0 * n1 + 2 * n1) (by omega) (by omega), w64_in (by omega) (by omega), w64_in (by omega) (by omega)]
  omega
theorem odd_step (h : AngM xs R i b0 b1 n0 n1) (hi : i < (xs.length : Int)) (he : i.tmod 2 = 1) : ¬ i % 2 = 0 ∧ (if isPtF (n0 + (n0 - b0 + xs.getD i.toNat 0 * n0)) (n1 + (n1 - b1 + xs.getD i.toNat 0 * n1)) = true then angG (xs.drop (i.toNat + 1)) true n0 n1 (n0 - b0 + xs.getD i.toNat 0 * n0) (n1 - b1 + xs.getD i.toNat 0 * n1) else none) = R := by
  have h0 := h.lo
  rw [tmod_pos h0] at he
  have hev : ¬ i % 2 = 0 := by omega
  have := h.od hev
  rw [drop_atI (k := i.toNat) (by omega), angG] at this
  exact ⟨hev, this⟩
theorem AngM.nextO (h : AngM xs R i b0 b1 n0 n1) (hi : i < (xs.length : Int)) (hl : xs.length ≤ 60) (he : i.tmod 2 = 1) (hx : 1 ≤ xs.getD i.toNat 0 ∧ xs.getD i.toNat 0 ≤ 1000000)
    (hp : isPtF (plusF (plusF 0 (-1) b0) (w64 (xs.getD i.toNat 0 + 2)) n0) (plusF (plusF 0 (-1) b1) (w64 (xs.getD i.toNat 0 + 2)) n1) = true) :
    AngM xs R (w64 (i + 1)) n0 n1 (plusF (plusF 0 (-1) b0) (w64 (xs.getD i.toNat 0 + 2)) n0) (plusF (plusF 0 (-1) b1) (w64 (xs.getD i.toNat 0 + 2)) n1) := by
  have h0 := h.lo
  have h1 := h.f0; have h2 := h.f1
  have v := h.oddv hx
  obtain ⟨hev, hs⟩ := odd_step h hi he
  have q1 : 0 ≤ xs.getD i.toNat 0 * n0 := Int.mul_nonneg (by omega) (by omega)
  have q2 : 0 ≤ xs.getD i.toNat 0 * n1 := Int.mul_nonneg (by omega) (by omega)
  rw [v.1, v.2] at hp ⊢
  rw [if_pos hp] at hs
  rw [w64_in (by omega) (by omega)]
  refine ⟨by omega, by omega, by omega, by omega, hp, fun _ => ?_, fun hh => by omega⟩
  rw [show n0 + (n0 - b0 + xs.getD i.toNat 0 * n0) - n0 = n0 - b0 + xs.getD i.toNat 0 * n0 by omega, show n1 + (n1 - b1 + xs.getD i.toNat 0 * n1) - n1 = n1 - b1 + xs.getD i.toNat 0 * n1 by omega, show (i + 1).toNat = i.toNat + 1 by omega]
  exact hs
theorem AngM.failO (h : AngM xs R i b0 b1 n0 n1) (hi : i < (xs.length : Int)) (he : i.tmod 2 = 1) (hx : 1 ≤ xs.getD i.toNat 0 ∧ xs.getD i.toNat 0 ≤ 1000000)
    (hp : isPtF (plusF (plusF 0 (-1) b0) (w64 (xs.getD i.toNat 0 + 2)) n0) (plusF (plusF 0 (-1) b1) (w64 (xs.getD i.toNat 0 + 2)) n1) = false) : R = none := by
  have v := h.oddv hx
  obtain ⟨hev, hs⟩ := odd_step h hi he
  rw [v.1, v.2] at hp
  rw [if_neg (by rw [hp]; decide)] at hs
  exact hs.symm
theorem AngM.fin (h : AngM xs R i b0 b1 n0 n1) (hi : ¬ i < (xs.length : Int)) (ho : xs.length % 2 = 1) : R = some (n0, n1) := by
  have h1 := h.hi
  have := h.od (by omega)
  rw [List.drop_eq_nil_of_le (by omega), angG] at this
  exact this.symm
end
theorem ang_both {xs : List Int} (ho : xs.length % 2 = 1) (hx : xs.any lowP = false) (hb : xs.any bigP = false) : angG xs true 1 0 0 1 = angF xs true 1 0 0 1 :=
  (ang_same _ xs 1 0 0 1 (Nat.le_refl _) ho (fun x hm => by
    have h1 := List.any_eq_false.1 hx _ hm
    have h2 := List.any_eq_false.1 hb _ hm
    simp only [lowP, bigP, decide_eq_true_eq] at h1 h2
    omega) ⟨by omega, by omega, by omega, by omega⟩).symm

end Go.Ev
