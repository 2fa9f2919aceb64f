/-
  Hilbert bases: what the reference's loops keep.
  Conditions: none.
-/
import Derived.Test.YtndmkibdcfpddaaDel
set_option linter.unusedVariables false
set_option linter.unusedSimpArgs false
namespace Go.Ev
open Go.RowKit

/-! ### The rays are put to the box -/
def allN (k : Cn) : Nat → List S3
  | 0 => boxO k
  | j + 1 => insS (allN k j) (k.ray j)
section
variable {k : Cn} {i j : Int} {O A Q : List S3} {x y : S3} {b : Bool}
theorem allN_three (k : Cn) : allN k 3 = allS k := rfl
theorem allN_asc (k : Cn) : ∀ j, Asc (allN k j)
  | 0 => boxO_asc k
  | j + 1 => insS_asc (allN_asc k j) _
theorem insS_le (l : List S3) (y : S3) : (insS l y).length ≤ l.length + 1 := by
  unfold insS
  split
  · omega
  · have := atS_le y l
    simp only [List.length_append, List.length_take, List.length_drop, List.length_singleton]; omega
theorem allN_len (hk : k.Ok) : ∀ j, (allN k j).length ≤ 64000000 + j
  | 0 => boxO_len hk
  | j + 1 => by
    have := allN_len hk j
    have := insS_le (allN k j) (k.ray j)
    show (insS (allN k j) (k.ray j)).length ≤ _
    omega
theorem insS_old {l : List S3} {y : S3} (h : y ∈ l) : insS l y = l := by unfold insS; rw [if_pos h]
structure PutN (k : Cn) (i : Int) (O : List S3) : Prop where
  lo : 0 ≤ i
  hi : i ≤ 3
  eq : O = allN k i.toNat
theorem PutN.start : PutN k 0 (boxO k) := ⟨by decide, by decide, rfl⟩
theorem PutN.asc (h : PutN k i O) : Asc O := by rw [h.eq]; exact allN_asc k _
theorem PutN.len (h : PutN k i O) (hk : k.Ok) : O.length ≤ 64000003 := by
  have := allN_len hk i.toNat
  have := h.hi
  rw [h.eq]; omega
theorem PutN.three (h : PutN k i O) (hl : i < 3) : i = 0 ∨ i = 1 ∨ i = 2 := by have := h.lo; omega
theorem PutN.fin (h : PutN k i O) (hl : ¬ i < 3) : O = allS k := by
  have h1 := h.lo; have h2 := h.hi
  have : i = 3 := by omega
  subst this
  exact h.eq
theorem put_o0 (h : PutN k 0 O) (hm : k.ray 0 ∈ O) : PutN k (w64 (0 + 1)) O := by
  rw [show w64 (0 + 1) = 1 from rfl]
  refine ⟨by decide, by decide, ?_⟩
  have e := h.eq
  subst e
  exact (insS_old hm).symm
theorem put_o1 (h : PutN k 1 O) (hm : k.ray 1 ∈ O) : PutN k (w64 (1 + 1)) O := by
  rw [show w64 (1 + 1) = 2 from rfl]
  refine ⟨by decide, by decide, ?_⟩
  have e := h.eq
  subst e
  exact (insS_old hm).symm
theorem put_o2 (h : PutN k 2 O) (hm : k.ray 2 ∈ O) : PutN k (w64 (2 + 1)) O := by
  rw [show w64 (2 + 1) = 3 from rfl]
  refine ⟨by decide, by decide, ?_⟩
  have e := h.eq
  subst e
  exact (insS_old hm).symm
theorem put_n0 (h : PutN k 0 O) : PutN k (w64 (0 + 1)) (insS O (k.ray 0)) := by
  rw [show w64 (0 + 1) = 1 from rfl]
  have e := h.eq
  subst e
  exact ⟨by decide, by decide, rfl⟩
theorem put_n1 (h : PutN k 1 O) : PutN k (w64 (1 + 1)) (insS O (k.ray 1)) := by
  rw [show w64 (1 + 1) = 2 from rfl]
  have e := h.eq
  subst e
  exact ⟨by decide, by decide, rfl⟩
theorem put_n2 (h : PutN k 2 O) : PutN k (w64 (2 + 1)) (insS O (k.ray 2)) := by
  rw [show w64 (2 + 1) = 3 from rfl]
  have e := h.eq
  subst e
  exact ⟨by decide, by decide, rfl⟩
theorem allS_sm (hk : k.Ok) (h : x ∈ allS k) : (-60 ≤ x.1 ∧ x.1 ≤ 60) ∧ (-60 ≤ x.2.1 ∧ x.2.1 ≤ 60) ∧ (-60 ≤ x.2.2 ∧ x.2.2 ≤ 60) := by
  have hr := Cn.ray_sm hk
  rcases allS_mem.1 h with h | rfl | rfl | rfl
  · exact box_small hk ((boxL_ok hk).box x h)
  · have := hr 0; omega
  · have := hr 1; omega
  · have := hr 2; omega

/-! ### Which are no sums -/
def fB (k : Cn) (x y : S3) : Bool := decide (y = z3) || decide (sub3 x y = z3) || !nn3 (k.own (sub3 x y))
structure BasI (k : Cn) (A : List S3) (x : S3) (j : Int) (b : Bool) : Prop where
  lo : 0 ≤ j
  hi : j ≤ (A.length : Int)
  eq : b = (!decide (x = z3) && (A.take j.toNat).all (fB k x))
theorem eqz_iff {x : S3} : eqCells #[iv x.1, iv x.2.1, iv x.2.2].toList #[iv 0, iv 0, iv 0].toList = decide (x = z3) := by
  rw [Bool.eq_iff_iff, decide_eq_true_eq]
  exact eq3_cells
theorem BasI.start : BasI k A x 0 (!eqCells #[iv x.1, iv x.2.1, iv x.2.2].toList #[iv 0, iv 0, iv 0].toList) := by
  refine ⟨by omega, by omega, ?_⟩
  rw [eqz_iff]
  simp
theorem BasI.next {b0 : Bool} (h : BasI k A x j b0) (hb : b0 = true) (hj : j < (A.length : Int)) (hl : A.length ≤ 100000000) (e : b = fB k x (A.getD j.toNat z3)) : BasI k A x (w64 (j + 1)) b := by
  have h0 := h.lo
  rw [w64_in (by omega) (by omega)]
  subst hb
  have hq := h.eq
  refine ⟨by omega, by omega, ?_⟩
  have hlt : j.toNat < A.length := by omega
  rw [show (j + 1).toNat = j.toNat + 1 by omega, List.take_add_one, List.getElem?_eq_getElem hlt, List.all_append, ← Bool.and_assoc, ← hq, e]
  rw [show A.getD j.toNat z3 = A[j.toNat] by simp [List.getD, List.getElem?_eq_getElem hlt]]
  simp
theorem BasI.mu (h : BasI k A x j b) (hj : j < (A.length : Int)) (hl : A.length ≤ 100000000) : ((A.length : Int) - w64 (j + 1)).toNat < ((A.length : Int) - j).toNat := by
  have h0 := h.lo
  rw [w64_in (by omega) (by omega)]; omega
theorem BasI.fin (h : BasI k A x j b) (hj : ¬ j < (A.length : Int)) : b = bas k A x := by
  have h0 := h.lo
  rw [h.eq, List.take_of_length_le (by omega)]
  rfl
theorem BasI.yes (h : BasI k A x j b) (hb : b = true) (hj : ¬ j < (A.length : Int)) : true = bas k A x := by rw [← hb]; exact h.fin hj
theorem BasI.stop (h : BasI k A x j b) (hb : b = false) : false = bas k A x := by
  subst hb
  have hq := h.eq
  show _ = (!decide (x = z3) && A.all (fB k x))
  cases hx : decide (x = z3) with
  | true => simp
  | false =>
    rw [hx] at hq
    simp only [Bool.not_false, Bool.true_and] at hq ⊢
    symm
    rw [Bool.eq_false_iff]
    intro ha
    rw [List.all_eq_true] at ha
    have : (A.take j.toNat).all (fB k x) = true := List.all_eq_true.2 fun y hy => ha y (List.mem_of_mem_take hy)
    rw [this] at hq; cases hq
/-- The difference, by the program's numbers. -/
theorem rest_F (hk : k.Ok) (hx : x ∈ allS k) (hy : y ∈ allS k) : (plusF x.1 (-1) y.1, plusF x.2.1 (-1) y.2.1, plusF x.2.2 (-1) y.2.2) = sub3 x y ∧ Sm3 (sub3 x y) := by
  have h1 := allS_sm hk hx
  have h2 := allS_sm hk hy
  constructor
  · rw [plus_in (by omega) (by omega), plus_in (by omega) (by omega), plus_in (by omega) (by omega)]
    exact s3_ext (by simp only [sub3]; omega) (by simp only [sub3]; omega) (by simp only [sub3]; omega)
  · exact ⟨by simp only [sub3]; omega, by simp only [sub3]; omega, by simp only [sub3]; omega⟩
theorem fB_y (h : eqCells #[iv y.1, iv y.2.1, iv y.2.2].toList #[iv 0, iv 0, iv 0].toList = true) : true = fB k x y := by
  rw [eqz_iff] at h
  unfold fB
  rw [h]; rfl
theorem fB_r (h : eqCells #[iv (sub3 x y).1, iv (sub3 x y).2.1, iv (sub3 x y).2.2].toList #[iv 0, iv 0, iv 0].toList = true) : true = fB k x y := by
  rw [eqz_iff] at h
  unfold fB
  rw [h]; simp
theorem fB_i (h1 : eqCells #[iv y.1, iv y.2.1, iv y.2.2].toList #[iv 0, iv 0, iv 0].toList = false) (h2 : eqCells #[iv (sub3 x y).1, iv (sub3 x y).2.1, iv (sub3 x y).2.2].toList #[iv 0, iv 0, iv 0].toList = false) : (!nn3 (k.own (sub3 x y))) = fB k x y := by
  rw [eqz_iff] at h1 h2
  unfold fB
  rw [h1, h2]; rfl

/-! ### The list of these -/
structure FilI (k : Cn) (A : List S3) (i : Int) (Q : List S3) : Prop where
  lo : 0 ≤ i
  hi : i ≤ (A.length : Int)
  eq : Q = (A.take i.toNat).filter (bas k A)
theorem FilI.start : FilI k A 0 [] := ⟨by omega, by omega, by simp⟩
theorem FilI.len (h : FilI k A i Q) : Q.length ≤ A.length := by
  rw [h.eq]
  exact Nat.le_trans (List.length_filter_le ..) (by rw [List.length_take]; omega)
theorem FilI.step (h : FilI k A i Q) (hi : i < (A.length : Int)) : (A.take (i + 1).toNat).filter (bas k A) = Q ++ if bas k A (A.getD i.toNat z3) = true then [A.getD i.toNat z3] else [] := by
  have h0 := h.lo
  have hlt : i.toNat < A.length := by omega
  rw [show (i + 1).toNat = i.toNat + 1 by omega, List.take_add_one, List.getElem?_eq_getElem hlt, List.filter_append, ← h.eq]
  rw [show A.getD i.toNat z3 = A[i.toNat] by simp [List.getD, List.getElem?_eq_getElem hlt]]
  cases hp : bas k A A[i.toNat] <;> simp [hp]
theorem FilI.yes (h : FilI k A i Q) (hi : i < (A.length : Int)) (hl : A.length ≤ 100000000) (hb : true = bas k A (A.getD i.toNat z3)) : FilI k A (w64 (i + 1)) (Q ++ [A.getD i.toNat z3]) := by
  have h0 := h.lo
  rw [w64_in (by omega) (by omega)]
  refine ⟨by omega, by omega, ?_⟩
  rw [h.step hi, ← hb]; rfl
theorem FilI.no (h : FilI k A i Q) (hi : i < (A.length : Int)) (hl : A.length ≤ 100000000) (hb : false = bas k A (A.getD i.toNat z3)) : FilI k A (w64 (i + 1)) Q := by
  have h0 := h.lo
  rw [w64_in (by omega) (by omega)]
  refine ⟨by omega, by omega, ?_⟩
  rw [h.step hi, ← hb]
  simp
theorem FilI.mu (h : FilI k A i Q) (hj : i < (A.length : Int)) (hl : A.length ≤ 100000000) : ((A.length : Int) - w64 (i + 1)).toNat < ((A.length : Int) - i).toNat := by
  have h0 := h.lo
  rw [w64_in (by omega) (by omega)]; omega
def hilS (k : Cn) : List S3 := (allS k).filter (bas k (allS k))
theorem hilO_eq (k : Cn) : hilO k = hilS k.prm := rfl
theorem FilI.fin (h : FilI k (allS k) i Q) (hj : ¬ i < ((allS k).length : Int)) : Q = hilS k := by
  have h0 := h.lo
  rw [h.eq, List.take_of_length_le (by omega)]
  rfl
theorem hilS_len (hk : k.Ok) : (hilS k).length ≤ 64000003 := Nat.le_trans (List.length_filter_le ..) (allS_len hk)
theorem allS_in {i : Nat} (h : i < (allS k).length) : (allS k).getD i z3 ∈ allS k := getD_in h
theorem ln_nz (hk : k.Ok) (j : Nat) : decide (ln3 (k.ray j) = 0) = false := by
  have := (ln3_dvd (Cn.ray_sm hk j) (Cn.ray_ne hk j)).1
  exact decide_eq_false (by omega)
theorem ln_nz0 (hk : k.Ok) : decide (lnF k.a k.b k.c = 0) = false := ln_nz hk 0
theorem ln_nz1 (hk : k.Ok) : decide (lnF k.d k.e k.f = 0) = false := ln_nz hk 1
theorem ln_nz2 (hk : k.Ok) : decide (lnF k.g k.h k.i = 0) = false := ln_nz hk 2
end
end Go.Ev
