/-
  Long expansions of corners, and parents of fractions: the plain law.
  Conditions: none.
-/
import Derived.Test.YtnjepaboecijcaaSeq
set_option linter.unusedVariables false
set_option linter.unusedSimpArgs false
namespace Go.Ev
open Go.RowKit

/-- The expansion with an odd number of terms. -/
def longL (xs : List Int) : List Int := if xs.length % 2 = 1 then xs else xs.take (xs.length - 1) ++ [w64 (xs.getD (xs.length - 1) 0 - 1), 1]
theorem longL_odd {xs : List Int} (h : xs.length % 2 = 1) : longL xs = xs := by unfold longL; rw [if_pos h]
theorem longL_even {xs : List Int} (h : ¬ xs.length % 2 = 1) : longL xs = xs.take (xs.length - 1) ++ [w64 (xs.getD (xs.length - 1) 0 - 1), 1] := by unfold longL; rw [if_neg h]
theorem set_last {xs : List Int} {v : Int} (h : 0 < xs.length) : xs.set (xs.length - 1) v = xs.take (xs.length - 1) ++ [v] := by
  apply List.ext_getElem?
  intro j
  simp only [List.getElem?_set, List.getElem?_append, List.getElem?_take, List.length_take]
  grind
theorem il_set {xs : List Int} {sp : List Value} {o : Nat} {v : Int} (h : o < xs.length) : (il xs ++ sp).set o (iv v) = il (xs.set o v) ++ sp := by
  rw [List.set_append_left _ _ (by rw [il_len]; exact h)]
  simp [il, List.map_set]
theorem force_il {off : Nat} {xs ys : List Int} {sp : List Value} {v : Int} {k : List Value → Prop} (h : off < xs.length) (hy : xs.set off v = ys) (hk : k (il ys ++ sp)) : forceL (splice (il xs ++ sp) off [iv v]) k := by
  refine force_set (by rw [List.length_append, il_len]; omega) ?_
  rw [il_set h, hy]; exact hk
def headL (xs : List Int) : List Int := xs.take (xs.length - 1) ++ [w64 (xs.getD (xs.length - 1) 0 - 1)]
theorem headL_len {xs : List Int} (h : 0 < xs.length) : (headL xs).length = xs.length := by simp [headL]; omega
theorem headL_set {xs : List Int} {o : Nat} {v : Int} (h : 0 < xs.length) (ho : o = xs.length - 1) (hv : v = w64 (xs.getD (xs.length - 1) 0 - 1)) : xs.set o v = headL xs := by
  subst ho hv; exact set_last h
theorem longL_head {xs : List Int} (h : ¬ xs.length % 2 = 1) : il (longL xs) = il (headL xs) ++ [iv 1] := by
  rw [longL_even h]; simp [il, headL]
theorem longL_two {xs : List Int} (h : ¬ xs.length % 2 = 1) : il (longL xs) = il (xs.take (xs.length - 1)) ++ [iv (w64 (xs.getD (xs.length - 1) 0 - 1)), iv 1] := by
  rw [longL_even h]; simp [il]
theorem Row.head {xs : List Int} {sp : List Value} {n c : Nat} (h : Row (il xs) sp n c 1) (h0 : 0 < xs.length) : Row (il (headL xs)) sp n c 1 :=
  ⟨by rw [il_len, headL_len h0, ← il_len]; exact h.len, by rw [il_len, headL_len h0, ← il_len]; exact h.cap, il_plain _, h.ps⟩
theorem take_pref {xs : List Int} {sp : List Value} {m : Nat} (h : m ≤ xs.length) : List.take (m * 1) (List.drop 0 (il xs ++ sp)) = il (xs.take m) := by
  rw [List.drop_zero, Nat.mul_one, List.take_append_of_le_length (by rw [il_len]; exact h)]
  simp [il, List.map_take]
theorem pref_len {xs : List Int} {m : Nat} (h : m ≤ xs.length) : (il (xs.take m)).length = m * 1 := by rw [il_len, List.length_take]; omega
theorem last_w {n : Nat} (h : 0 < n) (h2 : n ≤ 1000001) : w64 ((n : Int) - 1) = (n : Int) - 1 ∧ 0 ≤ w64 ((n : Int) - 1) ∧ w64 ((n : Int) - 1) < (n : Int) ∧ (w64 ((n : Int) - 1)).toNat = n - 1 := by
  rw [w64_in (by omega) (by omega)]; omega
theorem expL_pos {p q : Int} (h : 0 < q) : 0 < (expL p q).length := by rw [expL_step h]; simp
theorem tmod2 {n : Nat} : ((n : Int)).tmod 2 = 0 ↔ ¬ n % 2 = 1 := by
  rw [tmod_pos (by omega)]; omega
theorem tmod2' {n : Nat} : ((n : Int)).tmod 2 = 1 ↔ n % 2 = 1 := by
  rw [tmod_pos (by omega)]; omega
theorem corn_exp {a b c d : Int} (h : isCornF a b c d = true) (h2 : bigF a b c d = false) : ExpOk (sineF a b c d) (cosF a b c d) ∧ 0 < cosF a b c d := by
  have h1 := sine_corn h
  have h3 := cos_bounds h
  have h4 : ¬ sineF a b c d > 1000000 := of_decide_eq_false h2
  exact ⟨⟨by omega, by omega, by omega, by omega⟩, by omega⟩

/-! ### Parents -/

def parR0 (a b : Int) : Int := mateY b a
def parR1 (a b : Int) : Int := mateX b a
def parL0 (a b : Int) : Int := a - parR0 a b
def parL1 (a b : Int) : Int := b - parR1 a b

structure ParOk (a b : Int) : Prop where
  pt : isPtF a b = true
  prim : primF a b = true
  two : 2 ≤ b
theorem ParOk.swap {a b : Int} (h : ParOk a b) : isPtF b a = true := by have := h.pt; rw [isPtF_iff] at *; omega
theorem ParOk.gcd {a b : Int} (h : ParOk a b) : Int.gcd a b = 1 := prim_gcd h.pt h.prim
theorem ParOk.bez {a b : Int} (h : ParOk a b) : BezOk a b := by
  have := pt_bez h.swap (by have := h.two; omega)
  rwa [Int.natAbs_of_nonneg (by have := h.two; omega)] at this
/-- What the parents are told by. -/
theorem par_all {a b : Int} (h : ParOk a b) : bezF a b % b = b - mateX b a ∧ 1 + a * mateX b a = b * mateY b a ∧ 1 ≤ mateX b a ∧ mateX b a < b := by
  have h2 := h.two
  have hg := h.gcd
  have hb := bez_mul h.bez hg
  have hn : (b.natAbs : Int) = b := Int.natAbs_of_nonneg (by omega)
  have hb0 : b ≠ 0 := by omega
  have hx : mateX b a = (-(bezF a b)) % b := by unfold mateX; rw [if_neg hb0, hn]
  have e1 := Int.emod_add_mul_ediv (bezF a b) b
  have e2 := Int.emod_add_mul_ediv (-(bezF a b)) b
  have l1 := Int.emod_nonneg (bezF a b) hb0
  have l2 := Int.emod_lt_of_pos (bezF a b) (show 0 < b by omega)
  have l3 := Int.emod_nonneg (-(bezF a b)) hb0
  have l4 := Int.emod_lt_of_pos (-(bezF a b)) (show 0 < b by omega)
  have hdvd : b ∣ 1 + a * mateX b a := by
    rw [hx]
    obtain ⟨k, hk⟩ := hb
    refine ⟨-k - a * ((-(bezF a b)) / b), ?_⟩
    generalize (-(bezF a b)) % b = r at *
    generalize (-(bezF a b)) / b = q at *
    generalize bezF a b = f at *
    have : r = -f - b * q := by omega
    rw [this]
    have h3 : 1 = a * f - b * k := by omega
    rw [Int.mul_sub b]
    grind
  have hy : 1 + a * mateX b a = b * mateY b a := by
    simp only [mateY, hb0, if_false]
    exact (Int.mul_tdiv_cancel' hdvd).symm
  have hne : bezF a b % b ≠ 0 := fun h0 => by
    have : b ∣ bezF a b := Int.dvd_of_emod_eq_zero h0
    have h5 : b ∣ a * bezF a b := Int.dvd_mul_of_dvd_right this
    have h6 : b ∣ 1 := by
      have := Int.dvd_sub h5 hb
      rwa [show a * bezF a b - (a * bezF a b - 1) = 1 by omega] at this
    have := Int.le_of_dvd (by omega) h6
    omega
  have hsum : bezF a b % b + (-(bezF a b)) % b = b := by
    generalize (-(bezF a b)) % b = r at *
    generalize (-(bezF a b)) / b = q at *
    generalize bezF a b % b = r' at *
    generalize bezF a b / b = q' at *
    have e3 : r + r' = b * (-(q + q')) := by rw [Int.mul_neg, Int.mul_add]; omega
    generalize -(q + q') = z at *
    rcases (by omega : z ≤ 0 ∨ z = 1 ∨ 2 ≤ z) with hz | hz | hz
    · have : b * z ≤ b * 0 := Int.mul_le_mul_of_nonneg_left hz (by omega)
      omega
    · subst hz; omega
    · have : b * 2 ≤ b * z := Int.mul_le_mul_of_nonneg_left hz (by omega)
      omega
  rw [hx] at hy ⊢
  refine ⟨by omega, hy, ?_, l4⟩
  rw [← hx] at *
  omega
theorem par_bounds {a b : Int} (h : ParOk a b) : isPtF (mateY b a) (mateX b a) = true := by
  have := mate_pt h.swap
  rw [isPtF_iff] at *; omega
theorem par_l {a b : Int} (h : ParOk a b) : (a * (bezF a b % b) - 1).tdiv b = parL0 a b := by
  have h1 := par_all h
  have h2 := h.two
  have e : a * (bezF a b % b) - 1 = b * (a - mateY b a) := by
    rw [h1.1, Int.mul_sub, Int.mul_sub, Int.mul_comm a b]; omega
  rw [e, Int.mul_tdiv_cancel_left _ (by omega)]
  rfl
/-- The left parent, as the program finds it. -/
theorem par_lP {a b : Int} (h : ParOk a b) : w64 ((w64 (w64 (a * (bezF a b % b)) - 1)).tdiv b) = parL0 a b ∧ bezF a b % b = parL1 a b := by
  have h1 := par_all h
  have h2 := h.two
  have h3 := isPtF_iff.1 h.pt
  have h4 := isPtF_iff.1 (par_bounds h)
  have h5 := mul_abs (x := a) (y := bezF a b % b) (m := 1000000) (n := 1000000) (by omega) (by omega) (by omega) (by omega) (by omega)
  refine ⟨?_, h1.1⟩
  rw [w64_in (n := a * (bezF a b % b)) (by omega) (by omega), w64_in (n := a * (bezF a b % b) - 1) (by omega) (by omega), par_l h]
  unfold parL0 parR0
  rw [w64_in (by omega) (by omega)]
theorem par_r {a b : Int} (h : ParOk a b) : plusF a (-1) (parL0 a b) = parR0 a b ∧ plusF b (-1) (parL1 a b) = parR1 a b := by
  have h3 := isPtF_iff.1 h.pt
  have h4 := isPtF_iff.1 (par_bounds h)
  rw [plusF_neg, plusF_neg]
  unfold parL0 parL1 parR0 parR1
  rw [w64_in (by omega) (by omega), w64_in (by omega) (by omega)]
  omega
theorem par_rS {a b : Int} (h : ParOk a b) : plusF a (-1) (parR0 a b) = parL0 a b ∧ plusF b (-1) (parR1 a b) = parL1 a b := by
  have h3 := isPtF_iff.1 h.pt
  have h4 := isPtF_iff.1 (par_bounds h)
  rw [plusF_neg, plusF_neg]
  unfold parL0 parL1 parR0 parR1
  rw [w64_in (by omega) (by omega), w64_in (by omega) (by omega)]
  omega

end Go.Ev
