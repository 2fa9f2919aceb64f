/-
  What deleting from a row of spots keeps; the first spot with a property.
  Conditions: none.
-/
import Derived.Test.YtndmkibdcfpddaaHil
import Derived.Test.YtndmkibdcfpddaaKM2
set_option linter.unusedVariables false
set_option linter.unusedSimpArgs false
namespace Go.Ev
open Go.RowKit

/-- The i-th spot of a row that does not begin with its block. -/
theorem RowO.at3 {C : List Value} {o n c : Nat} {L : List S3} (h : RowO C o (sl L) n c 3) {off i : Nat} (ho : off = o + i * 3) (hi : i < L.length) : List.take 3 (List.drop off C) = [iv (L.getD i (0, 0, 0)).1, iv (L.getD i (0, 0, 0)).2.1, iv (L.getD i (0, 0, 0)).2.2] := by
  obtain ⟨pre, sp, suf, rfl, rfl, hr, h1, h2⟩ := h.ex
  subst ho
  rw [List.append_assoc, List.append_assoc, ← List.drop_drop, List.drop_left]
  exact take_sp rfl hi

/-! ### The first one -/
structure FirS (p : S3 → Bool) (L : List S3) (i : Int) : Prop where
  lo : 0 ≤ i
  hi : i ≤ (L.length : Int)
  no : ∀ j : Nat, (j : Int) < i → p (L.getD j (0, 0, 0)) = false
inductive IdxR (p : S3 → Bool) (L : List S3) : Int → Prop
  | none (h : ∀ j : Nat, j < L.length → p (L.getD j (0, 0, 0)) = false) : IdxR p L (-1)
  | some {r : Int} (h0 : 0 ≤ r) (h1 : r < (L.length : Int)) (hp : p (L.getD r.toNat (0, 0, 0)) = true) (h : ∀ j : Nat, (j : Int) < r → p (L.getD j (0, 0, 0)) = false) : IdxR p L r
section
variable {p : S3 → Bool} {L : List S3} {i r : Int}
theorem FirS.start : FirS p L 0 := ⟨by omega, by omega, fun j hj => by omega⟩
theorem FirS.next (h : FirS p L i) (hi : i < (L.length : Int)) (hl : L.length ≤ 100000000) (hp : p (L.getD i.toNat (0, 0, 0)) = false) : FirS p L (w64 (i + 1)) := by
  have h0 := h.lo
  rw [w64_in (by omega) (by omega)]
  refine ⟨by omega, by omega, fun j hj => ?_⟩
  by_cases e : (j : Int) = i
  · rw [show j = i.toNat by omega]; exact hp
  · exact h.no j (by omega)
theorem FirS.mu (h : FirS p L i) (hi : i < (L.length : Int)) (hl : L.length ≤ 100000000) : ((L.length : Int) - w64 (i + 1)).toNat < ((L.length : Int) - i).toNat := by
  have h0 := h.lo
  rw [w64_in (by omega) (by omega)]; omega
theorem FirS.hit (h : FirS p L i) (hi : i < (L.length : Int)) (hp : p (L.getD i.toNat (0, 0, 0)) = true) : IdxR p L i := .some h.lo hi hp h.no
theorem FirS.fin (h : FirS p L i) (hi : ¬ i < (L.length : Int)) : IdxR p L (-1) := .none fun j hj => h.no j (by omega)
theorem getD_in {j : Nat} (h : j < L.length) : L.getD j (0, 0, 0) ∈ L := by
  rw [show L.getD j (0, 0, 0) = L[j] by simp [List.getD, List.getElem?_eq_getElem h]]
  exact List.getElem_mem h
theorem IdxR.any (h : IdxR p L r) : decide (r ≥ 0) = L.any p := by
  cases h with
  | none h =>
    symm
    show L.any p = false
    rw [List.any_eq_false]
    intro x hx
    obtain ⟨j, hj, rfl⟩ := List.getElem_of_mem hx
    have := h j hj
    rw [show L.getD j (0, 0, 0) = L[j] by simp [List.getD, List.getElem?_eq_getElem hj]] at this
    simp [this]
  | some h0 h1 hp h =>
    rw [decide_eq_true h0]
    symm
    exact List.any_eq_true.2 ⟨_, getD_in (by omega), hp⟩
theorem IdxR.all (h : IdxR p L r) (hr : r = -1) : L.filter (fun x => !p x) = L := by
  cases h with
  | none h =>
    refine List.filter_eq_self.2 fun x hx => ?_
    obtain ⟨j, hj, rfl⟩ := List.getElem_of_mem hx
    have := h j hj
    rw [show L.getD j (0, 0, 0) = L[j] by simp [List.getD, List.getElem?_eq_getElem hj]] at this
    simp [this]
  | some h0 h1 hp h => omega
end

/-! ### Deleting in place -/
/-- C: the cells of the row, behind the first j; i: how many of these are kept. -/
structure DelI (p : S3 → Bool) (L : List S3) (sp C : List Value) (i j : Int) : Prop where
  lo : 0 ≤ i
  lt : i < j
  hi : j ≤ (L.length : Int)
  len : C.length = (sl L ++ sp).length
  pl : Plain C
  cnt : i.toNat = ((L.take j.toNat).filter fun x => !p x).length
  pre : C.take (i.toNat * 3) = sl ((L.take j.toNat).filter fun x => !p x)
  suf : C.drop (j.toNat * 3) = (sl L ++ sp).drop (j.toNat * 3)
section
variable {p : S3 → Bool} {L : List S3} {sp C : List Value} {i j r : Int} {n c : Nat}
theorem take_filter_next {j : Nat} (h : j < L.length) : (L.take (j + 1)).filter (fun x => !p x) = (L.take j).filter (fun x => !p x) ++ (if p (L.getD j (0, 0, 0)) = true then [] else [L.getD j (0, 0, 0)]) := by
  rw [List.take_add_one, List.getElem?_eq_getElem h, List.filter_append]
  rw [show L.getD j (0, 0, 0) = L[j] by simp [List.getD, List.getElem?_eq_getElem h]]
  cases hp : p L[j] <;> simp [hp]
theorem DelI.start (h1 : Row (sl L) sp n c 3) (h : IdxR p L r) (hr : ¬ r = -1) (hl : L.length ≤ 100000000) : DelI p L sp (sl L ++ sp) r (w64 (r + 1)) := by
  cases h with
  | none h => exact absurd rfl hr
  | some h0 h2 hp h =>
    rw [w64_in (by omega) (by omega)]
    have hlt : r.toNat < L.length := by omega
    have e : (L.take (r + 1).toNat).filter (fun x => !p x) = L.take r.toNat := by
      rw [show (r + 1).toNat = r.toNat + 1 by omega, take_filter_next hlt, if_pos hp, List.append_nil]
      refine List.filter_eq_self.2 fun x hx => ?_
      obtain ⟨j, hj, rfl⟩ := List.getElem_of_mem hx
      rw [List.length_take] at hj
      have := h j (by omega)
      rw [show L.getD j (0, 0, 0) = L[j] by simp [List.getD, List.getElem?_eq_getElem (show j < L.length by omega)]] at this
      simp [this]
    refine ⟨h0, by omega, by omega, rfl, h1.all, ?_, ?_, rfl⟩
    · rw [e, List.length_take]; omega
    · rw [e]
      have := take_head (L := L) (sp := sp) (i := r.toNat) (by omega)
      rwa [List.drop_zero] at this
theorem DelI.at_ (h : DelI p L sp C i j) (hj : j < (L.length : Int)) {off : Nat} (ho : off = j.toNat * 3) : List.take 3 (List.drop off C) = [iv (L.getD j.toNat (0, 0, 0)).1, iv (L.getD j.toNat (0, 0, 0)).2.1, iv (L.getD j.toNat (0, 0, 0)).2.2] := by
  have h1 := h.lo; have h2 := h.lt
  subst ho
  rw [h.suf]
  exact take_sp rfl (by omega)
theorem DelI.mu (h : DelI p L sp C i j) (hj : j < (L.length : Int)) (hl : L.length ≤ 100000000) : ((L.length : Int) - w64 (j + 1)).toNat < ((L.length : Int) - j).toNat := by
  have h1 := h.lo; have h2 := h.lt
  rw [w64_in (by omega) (by omega)]; omega
theorem drop_more {C D : List Value} {a b : Nat} (h : C.drop a = D.drop a) (hab : a ≤ b) : C.drop b = D.drop b := by
  obtain ⟨t, rfl⟩ : ∃ t, b = a + t := ⟨b - a, by omega⟩
  rw [← List.drop_drop, ← List.drop_drop, h]
theorem DelI.skip (h : DelI p L sp C i j) (hj : j < (L.length : Int)) (hl : L.length ≤ 100000000) (hp : p (L.getD j.toNat (0, 0, 0)) = true) : DelI p L sp C i (w64 (j + 1)) := by
  have h1 := h.lo; have h2 := h.lt
  have hlt : j.toNat < L.length := by omega
  rw [w64_in (by omega) (by omega)]
  have e : (L.take (j + 1).toNat).filter (fun x => !p x) = (L.take j.toNat).filter (fun x => !p x) := by
    rw [show (j + 1).toNat = j.toNat + 1 by omega, take_filter_next hlt, if_pos hp, List.append_nil]
  exact ⟨h1, by omega, by omega, h.len, h.pl, by rw [e]; exact h.cnt, by rw [e]; exact h.pre, drop_more h.suf (by omega)⟩
theorem DelI.keep (h : DelI p L sp C i j) (h1 : Row (sl L) sp n c 3) (hj : j < (L.length : Int)) (hl : L.length ≤ 100000000) (hp : p (L.getD j.toNat (0, 0, 0)) = false) {off : Nat} (ho : off = i.toNat * 3) {D : List Value}
    (hD : D = C.take off ++ [iv (L.getD j.toNat (0, 0, 0)).1, iv (L.getD j.toNat (0, 0, 0)).2.1, iv (L.getD j.toNat (0, 0, 0)).2.2] ++ C.drop (off + 3)) : DelI p L sp D (w64 (i + 1)) (w64 (j + 1)) := by
  have h3 := h.lo; have h2 := h.lt
  have hlt : j.toNat < L.length := by omega
  subst ho hD
  rw [w64_in (by omega) (by omega), w64_in (by omega) (by omega)]
  have e : (L.take (j + 1).toNat).filter (fun x => !p x) = (L.take j.toNat).filter (fun x => !p x) ++ [L.getD j.toNat (0, 0, 0)] := by
    rw [show (j + 1).toNat = j.toNat + 1 by omega, take_filter_next hlt, if_neg (by rw [hp]; exact Bool.false_ne_true)]
  have hln : (sl L).length = L.length * 3 := sl_len L
  have hC : L.length * 3 ≤ C.length := by rw [h.len, List.length_append]; omega
  have hi3 : i.toNat * 3 + 3 ≤ j.toNat * 3 := by omega
  have hj3 : j.toNat * 3 + 3 ≤ L.length * 3 := by omega
  have lt_ : (C.take (i.toNat * 3)).length = i.toNat * 3 := by rw [List.length_take]; omega
  refine ⟨by omega, by omega, by omega, ?_, ?_, ?_, ?_, ?_⟩
  · rw [← h.len]
    simp only [List.length_append, lt_, List.length_drop, List.length_cons, List.length_nil]; omega
  · intro v hv
    rcases List.mem_append.1 hv with hv | hv
    · rcases List.mem_append.1 hv with hv | hv
      · exact h.pl v (List.mem_of_mem_take hv)
      · exact (Plain.of rfl : Plain [iv (L.getD j.toNat (0, 0, 0)).1, iv (L.getD j.toNat (0, 0, 0)).2.1, iv (L.getD j.toNat (0, 0, 0)).2.2]) v hv
    · exact h.pl v (List.mem_of_mem_drop hv)
  · rw [e, List.length_append, ← h.cnt]; simp; omega
  · rw [e, sl_snoc, ← h.pre]
    have : (i + 1).toNat * 3 = (C.take (i.toNat * 3) ++ [iv (L.getD j.toNat (0, 0, 0)).1, iv (L.getD j.toNat (0, 0, 0)).2.1, iv (L.getD j.toNat (0, 0, 0)).2.2]).length := by
      rw [List.length_append, lt_]; simp; omega
    rw [this, List.take_left]
  · have hle : (C.take (i.toNat * 3) ++ [iv (L.getD j.toNat (0, 0, 0)).1, iv (L.getD j.toNat (0, 0, 0)).2.1, iv (L.getD j.toNat (0, 0, 0)).2.2]).length = i.toNat * 3 + 3 := by
      rw [List.length_append, lt_]; rfl
    have e3 : i.toNat * 3 + 3 + ((j + 1).toNat * 3 - (i.toNat * 3 + 3)) = (j + 1).toNat * 3 := by omega
    rw [List.drop_append, hle, List.drop_drop, e3, List.drop_of_length_le (by rw [hle]; omega), List.nil_append]
    exact drop_more h.suf (by omega)
/-- The end: what is behind the kept ones is cleared. -/
theorem DelI.fin (h : DelI p L sp C i j) (h1 : Row (sl L) sp n c 3) (hj : ¬ j < (L.length : Int)) {off m : Nat} {Z D : List Value} (hZ : Plain Z) (hl : Z.length = m * 3) (ho : (m = 0 ∧ Z = []) ∨ off = i.toNat * 3) (hm : m = L.length - i.toNat)
    (hD : D = C.take off ++ Z ++ C.drop (off + m * 3)) : ∃ s2, D = sl (L.filter fun x => !p x) ++ s2 ∧ Row (sl (L.filter fun x => !p x)) s2 i.toNat c 3 := by
  have h3 := h.lo; have h2 := h.lt; have h4 := h.hi
  have ej : j.toNat = L.length := by omega
  have hpre := h.pre
  have hcnt := h.cnt
  rw [ej, List.take_length] at hpre hcnt
  have hcap := h1.cap
  have hC : C.length = c * 3 := by rw [h.len, List.length_append]; exact hcap
  have hDC : D.length = C.length ∧ D.take (i.toNat * 3) = C.take (i.toNat * 3) ∧ Plain D := by
    have hm3 : m * 3 = L.length * 3 - i.toNat * 3 := by omega
    have hln : (sl L).length = L.length * 3 := sl_len L
    rcases ho with ⟨rfl, rfl⟩ | rfl
    · have : D = C := by rw [hD]; simp
      rw [this]; exact ⟨rfl, rfl, h.pl⟩
    · have lt_ : (C.take (i.toNat * 3)).length = i.toNat * 3 := by rw [List.length_take]; omega
      refine ⟨?_, ?_, ?_⟩
      · rw [hD]
        simp only [List.length_append, lt_, hl, List.length_drop]; omega
      · rw [hD, List.append_assoc, List.take_append_of_le_length (by omega), List.take_take, Nat.min_self]
      · rw [hD]
        intro v hv
        rcases List.mem_append.1 hv with hv | hv
        · rcases List.mem_append.1 hv with hv | hv
          · exact h.pl v (List.mem_of_mem_take hv)
          · exact hZ v hv
        · exact h.pl v (List.mem_of_mem_drop hv)
  refine ⟨D.drop (i.toNat * 3), ?_, ?_⟩
  · rw [← hpre, ← hDC.2.1, List.take_append_drop]
  · refine ⟨by rw [sl_len, ← hcnt], ?_, sl_plain _, fun v hv => hDC.2.2 v (List.mem_of_mem_drop hv)⟩
    rw [sl_len, ← hcnt, List.length_drop, hDC.1, hC]
    have : i.toNat * 3 ≤ C.length := by
      have e := congrArg List.length hpre
      rw [List.length_take, sl_len, ← hcnt] at e
      omega
    omega
theorem DelI.room (h : DelI p L sp C i j) (hj : j < (L.length : Int)) : 0 + i.toNat * 3 + 3 ≤ C.length := by
  have h3 := h.lo; have h2 := h.lt
  have hln : (sl L).length = L.length * 3 := sl_len L
  rw [h.len, List.length_append]; omega
theorem forceL_mk {α : Type} {l : List α} {k : List α → Prop} (h : k l) : forceL l k := by rw [forceL_eq]; exact h
theorem off_cases (c : Nat) : ∀ i : Nat, c = i ∨ offK c i 0 3 = i * 3
  | 0 => .inr rfl
  | i + 1 => by
    show c = i + 1 ∨ (match Nat.beq c (i + 1) with | true => 0 | false => 0 + (i + 1) * 3) = (i + 1) * 3
    cases hb : Nat.beq c (i + 1) with
    | true => exact .inl (Nat.eq_of_beq_eq_true hb)
    | false => exact .inr (by show 0 + (i + 1) * 3 = _; omega)
theorem DelI.fit (h : DelI p L sp C i j) (h1 : Row (sl L) sp n c 3) : offK c i.toNat 0 3 + subK L.length i.toNat * 3 ≤ C.length := by
  have h3 := h.lo; have h2 := h.lt; have h4 := h.hi
  have hcap := h1.cap
  have hln : (sl L).length = L.length * 3 := sl_len L
  rw [subK_eq, h.len, List.length_append]
  rcases off_cases c i.toNat with e | e
  · have : offK c i.toNat 0 3 ≤ i.toNat * 3 := by
      generalize i.toNat = m
      cases m with
      | zero => exact Nat.le_refl _
      | succ m =>
        show (match Nat.beq c (m + 1) with | true => 0 | false => 0 + (m + 1) * 3) ≤ _
        cases Nat.beq c (m + 1) with
        | true => exact Nat.zero_le _
        | false => show 0 + (m + 1) * 3 ≤ _; omega
    omega
  · omega
theorem DelI.fin2 (h : DelI p L sp C i j) (h1 : Row (sl L) sp n c 3) (hj : ¬ j < (L.length : Int)) {Z : List Value} (hZ : Plain Z) (hl : Z.length = subK L.length i.toNat * 3) :
    ∃ s2, C.take (offK c i.toNat 0 3) ++ Z ++ C.drop (offK c i.toNat 0 3 + subK L.length i.toNat * 3) = sl (L.filter fun x => !p x) ++ s2 ∧ Row (sl (L.filter fun x => !p x)) s2 i.toNat c 3 := by
  have h3 := h.lo; have h2 := h.lt; have h4 := h.hi
  have hcap := h1.cap
  have hln : (sl L).length = L.length * 3 := sl_len L
  refine h.fin h1 hj hZ hl ?_ (subK_eq _ _) rfl
  rcases off_cases c i.toNat with e | e
  · have hm : subK L.length i.toNat = 0 := by rw [subK_eq]; omega
    rw [hm] at hl
    exact .inl ⟨hm, List.length_eq_zero_iff.1 (by omega)⟩
  · exact .inr e
end

/-! ### The rounded property -/
def hbF (x y : S3) : Bool := !decide (y = x) && nn3 (plusF x.1 (-1) y.1, plusF x.2.1 (-1) y.2.1, plusF x.2.2 (-1) y.2.2)
theorem hbF_eq {x y : S3} (hx : (0 ≤ x.1 ∧ x.1 ≤ 400) ∧ (0 ≤ x.2.1 ∧ x.2.1 ≤ 400) ∧ (0 ≤ x.2.2 ∧ x.2.2 ≤ 400)) (hy : (0 ≤ y.1 ∧ y.1 ≤ 400) ∧ (0 ≤ y.2.1 ∧ y.2.1 ≤ 400) ∧ (0 ≤ y.2.2 ∧ y.2.2 ≤ 400)) : hbF x y = hb x y := by
  unfold hbF hb
  rw [plus_in (by omega) (by omega), plus_in (by omega) (by omega), plus_in (by omega) (by omega)]
  congr 2
  exact s3_ext (by simp only [sub3]; omega) (by simp only [sub3]; omega) (by simp only [sub3]; omega)
theorem hbF_t {x y : S3} (h : eqCells #[iv y.1, iv y.2.1, iv y.2.2].toList #[iv x.1, iv x.2.1, iv x.2.2].toList = true) : false = hbF x y := by
  have : y = x := eq3_cells.1 h
  unfold hbF
  rw [decide_eq_true this]
  rfl
theorem hbF_f {x y : S3} (h : eqCells #[iv y.1, iv y.2.1, iv y.2.2].toList #[iv x.1, iv x.2.1, iv x.2.2].toList = false) : (decide (plusF x.1 (-1) y.1 ≥ 0) && decide (plusF x.2.1 (-1) y.2.1 ≥ 0) && decide (plusF x.2.2 (-1) y.2.2 ≥ 0)) = hbF x y := by
  have hn : y ≠ x := fun e => by rw [eq3_cells.2 (show (y.1, y.2.1, y.2.2) = (x.1, x.2.1, x.2.2) from e)] at h; cases h
  unfold hbF nn3
  rw [decide_eq_false hn]
  rfl
/-- The list that the program makes, number by number of the rays. -/
def genN (k : Cn) : Nat → List S3
  | 0 => (boxL k).tail
  | j + 1 => genN k j ++ ray1 k j
theorem genN_three (k : Cn) : genN k 3 = genI k := rfl
section
variable {k : Cn}
theorem genI_spl (hk : k.Ok) : SpL k (genI k) := by
  have hd := Cn.D_le hk
  refine ⟨?_, fun x hx => ?_⟩
  · have hl := (boxL_ok hk).len hk
    have hr : ∀ j, (ray1 k j).length ≤ 1 := fun j => by unfold ray1; split <;> simp
    have h0 := hr 0; have h1 := hr 1; have h2 := hr 2
    unfold genI
    simp only [List.length_append, List.length_tail]; omega
  · rcases (genI_mem hk).1 hx with ⟨h, -⟩ | ⟨j, hj, rfl, -⟩
    · exact ((boxL_ok hk).box x h).le
    · rw [Cn.own_ray]
      have : j = 0 ∨ j = 1 ∨ j = 2 := by omega
      rcases this with rfl | rfl | rfl <;> (unfold Cn.BoxD; simp only [mul3, unit3]; omega)
theorem hilI_spl (hk : k.Ok) : SpL k (hilI k) := by
  have h := genI_spl hk
  refine ⟨Nat.le_trans (List.length_filter_le ..) h.le, fun x hx => h.box x (List.mem_filter.1 hx).1⟩
theorem hilF (hk : k.Ok) : ((genI k).map k.own).filter (fun x => !(((genI k).map k.own).any fun y => hbF x y)) = (hilI k).map k.own := by
  rw [← hilI_map]
  have hd := Cn.D_le hk
  have hb : ∀ x ∈ (genI k).map k.own, (0 ≤ x.1 ∧ x.1 ≤ 400) ∧ (0 ≤ x.2.1 ∧ x.2.1 ≤ 400) ∧ (0 ≤ x.2.2 ∧ x.2.2 ≤ 400) := by
    intro x hx
    obtain ⟨p, hp, rfl⟩ := List.mem_map.1 hx
    have := (genI_spl hk).box p hp
    unfold Cn.BoxD at this
    omega
  refine List.filter_congr fun x hx => ?_
  congr 1
  rw [Bool.eq_iff_iff, List.any_eq_true, List.any_eq_true]
  constructor
  · rintro ⟨y, hy, h⟩; exact ⟨y, hy, by rwa [← hbF_eq (hb x hx) (hb y hy)]⟩
  · rintro ⟨y, hy, h⟩; exact ⟨y, hy, by rwa [hbF_eq (hb x hx) (hb y hy)]⟩
theorem genN_len (hk : k.Ok) : ∀ j, (genN k j).length ≤ 64000000 + j
  | 0 => by
    have hl := (boxL_ok hk).len hk
    show (boxL k).tail.length ≤ _
    rw [List.length_tail]; omega
  | j + 1 => by
    have := genN_len hk j
    have hr : (ray1 k j).length ≤ 1 := by unfold ray1; split <;> simp
    show (genN k j ++ ray1 k j).length ≤ _
    rw [List.length_append]; omega
end

/-! ### The program's loop over the rays -/
theorem subK_one (n : Nat) : subK n 1 = n - 1 := subK_eq n 1
theorem RowO.tail {L : List S3} {sp : List Value} {n c : Nat} {x : S3} (h : Row (sl (x :: L)) sp n c 3) : RowO (sl (x :: L) ++ sp) (offK c 1 0 3) (sl L) (subK n 1) (subK c 1) 3 := by
  have hl := h.len; have hc := h.cap
  have hln : (sl L).length = L.length * 3 := sl_len L
  rw [sl_len] at hl hc
  simp only [List.length_cons] at hl hc
  rw [subK_one, subK_one]
  rcases off_cases c 1 with e | e
  · have h0 : L.length = 0 := by omega
    obtain rfl := List.length_eq_zero_iff.1 h0
    have ho : offK c 1 0 3 = 0 := by rw [e]; rfl
    rw [ho]
    exact ⟨[], [], sl [x] ++ sp, by simp [sl_nil], rfl, ⟨by simp [sl_nil]; omega, by simp [sl_nil]; omega, Plain.nil, Plain.nil⟩, Plain.nil, h.all⟩
  · rw [e]
    refine ⟨[iv x.1, iv x.2.1, iv x.2.2], sp, [], by simp [sl_cons], rfl, ⟨by omega, by omega, sl_plain _, h.ps⟩, Plain.of rfl, Plain.nil⟩
section
variable {k : Cn}
theorem tail_row (hk : k.Ok) {sp : List Value} {n c : Nat} (h : Row (sl ((boxL k).map k.own)) sp n c 3) : RowO (sl ((boxL k).map k.own) ++ sp) (offK c 1 0 3) (sl ((genN k 0).map k.own)) (subK n 1) (subK c 1) 3 := by
  have e : (boxL k).map k.own = k.own z3 :: (genN k 0).map k.own := by
    show _ = k.own z3 :: ((boxL k).tail).map k.own
    rw [← List.map_cons, ← boxL_cons]
  rw [e] at h ⊢
  exact RowO.tail h
theorem ray1_yes {j : Nat} (h : ln3 (k.ray j) = 1) : genN k (j + 1) = genN k j ++ [k.ray j] := by
  show genN k j ++ ray1 k j = _
  unfold ray1; rw [if_pos h]
theorem ray1_no {j : Nat} (h : ¬ ln3 (k.ray j) = 1) : genN k (j + 1) = genN k j := by
  show genN k j ++ ray1 k j = _
  unfold ray1; rw [if_neg h, List.append_nil]
theorem gen_row {j : Nat} (h : ln3 (k.ray j) = 1) : sl ((genN k (j + 1)).map k.own) = sl ((genN k j).map k.own) ++ [iv (k.D * (unit3 j).1), iv (k.D * (unit3 j).2.1), iv (k.D * (unit3 j).2.2)] := by
  rw [ray1_yes h, List.map_append, List.map_cons, List.map_nil, sl_snoc, Cn.own_ray]
  rfl
theorem gen_row0 (h : decide (lnF k.a k.b k.c = 1) = true) : sl ((genN k 0).map k.own) ++ [iv k.D, iv 0, iv 0] = sl ((genN k 1).map k.own) := by
  rw [gen_row (j := 0) (of_decide_eq_true h)]; simp [unit3]
theorem gen_row1 (h : decide (lnF k.d k.e k.f = 1) = true) : sl ((genN k 1).map k.own) ++ [iv 0, iv k.D, iv 0] = sl ((genN k 2).map k.own) := by
  rw [gen_row (j := 1) (of_decide_eq_true h)]; simp [unit3]
theorem gen_row2 (h : decide (lnF k.g k.h k.i = 1) = true) : sl ((genN k 2).map k.own) ++ [iv 0, iv 0, iv k.D] = sl ((genN k 3).map k.own) := by
  rw [gen_row (j := 2) (of_decide_eq_true h)]; simp [unit3]
theorem gen_no0 (h : decide (lnF k.a k.b k.c = 1) = false) : genN k 1 = genN k 0 := ray1_no (j := 0) (of_decide_eq_false h)
theorem gen_no1 (h : decide (lnF k.d k.e k.f = 1) = false) : genN k 2 = genN k 1 := ray1_no (j := 1) (of_decide_eq_false h)
theorem gen_no2 (h : decide (lnF k.g k.h k.i = 1) = false) : genN k 3 = genN k 2 := ray1_no (j := 2) (of_decide_eq_false h)
theorem row_y0 {C : List Value} {o n c : Nat} (hr : RowO C o (sl ((genN k 0).map k.own) ++ [iv k.D, iv 0, iv 0]) n c 3) (h : decide (lnF k.a k.b k.c = 1) = true) : RowO C o (sl ((genN k 1).map k.own)) n c 3 := by rw [← gen_row0 h]; exact hr
theorem row_n0 {C : List Value} {o n c : Nat} (hr : RowO C o (sl ((genN k 0).map k.own)) n c 3) (h : decide (lnF k.a k.b k.c = 1) = false) : RowO C o (sl ((genN k 1).map k.own)) n c 3 := by rw [gen_no0 h]; exact hr
theorem row_y1 {C : List Value} {o n c : Nat} (hr : RowO C o (sl ((genN k 1).map k.own) ++ [iv 0, iv k.D, iv 0]) n c 3) (h : decide (lnF k.d k.e k.f = 1) = true) : RowO C o (sl ((genN k 2).map k.own)) n c 3 := by rw [← gen_row1 h]; exact hr
theorem row_n1 {C : List Value} {o n c : Nat} (hr : RowO C o (sl ((genN k 1).map k.own)) n c 3) (h : decide (lnF k.d k.e k.f = 1) = false) : RowO C o (sl ((genN k 2).map k.own)) n c 3 := by rw [gen_no1 h]; exact hr
theorem row_y2 {C : List Value} {o n c : Nat} (hr : RowO C o (sl ((genN k 2).map k.own) ++ [iv 0, iv 0, iv k.D]) n c 3) (h : decide (lnF k.g k.h k.i = 1) = true) : RowO C o (sl ((genN k 3).map k.own)) n c 3 := by rw [← gen_row2 h]; exact hr
theorem row_n2 {C : List Value} {o n c : Nat} (hr : RowO C o (sl ((genN k 2).map k.own)) n c 3) (h : decide (lnF k.g k.h k.i = 1) = false) : RowO C o (sl ((genN k 3).map k.own)) n c 3 := by rw [gen_no2 h]; exact hr
/-- The list behind the first i rays. -/
structure RayI (k : Cn) (i : Int) (C : List Value) (o n c : Nat) : Prop where
  lo : 0 ≤ i
  hi : i ≤ 3
  row : RowO C o (sl ((genN k i.toNat).map k.own)) n c 3
theorem RayI.len {i : Int} {C : List Value} {o n c : Nat} (h : RayI k i C o n c) (hk : k.Ok) : n ≤ 64000003 := by
  have := h.row.len
  rw [sl_len, List.length_map] at this
  have := genN_len hk i.toNat
  have := h.hi
  omega
theorem RayI.three {i : Int} {C : List Value} {o n c : Nat} (h : RayI k i C o n c) (hl : i < 3) : i = 0 ∨ i = 1 ∨ i = 2 := by
  have := h.lo; omega
theorem RayI.fin {i : Int} {C : List Value} {o n c : Nat} (h : RayI k i C o n c) (hl : ¬ i < 3) : RowO C o (sl ((genI k).map k.own)) n c 3 := by
  have h1 := h.lo; have h2 := h.hi
  have : i = 3 := by omega
  subst this
  exact h.row
theorem hilO_len (hk : k.Ok) : (hilO k).length ≤ 64000003 := Nat.le_trans (List.length_filter_le ..) (allS_len (Cn.prm_ok hk))
theorem ray_y0 {C : List Value} {o n c : Nat} (hr : RowO C o (sl ((genN k (Int.toNat 0)).map k.own) ++ [iv k.D, iv 0, iv 0]) n c 3) (h : decide (lnF k.a k.b k.c = 1) = true) : RayI k (w64 (0 + 1)) C o n c := by
  rw [show w64 (0 + 1) = 1 from rfl]
  exact ⟨by decide, by decide, row_y0 hr h⟩
theorem ray_n0 {C : List Value} {o n c : Nat} (hI : RayI k 0 C o n c) (h : decide (lnF k.a k.b k.c = 1) = false) : RayI k (w64 (0 + 1)) C o n c := by
  rw [show w64 (0 + 1) = 1 from rfl]
  exact ⟨by decide, by decide, row_n0 hI.row h⟩
theorem ray_m0 : (3 - w64 (0 + 1)).toNat < (3 - 0 : Int).toNat := by decide
theorem ray_y1 {C : List Value} {o n c : Nat} (hr : RowO C o (sl ((genN k (Int.toNat 1)).map k.own) ++ [iv 0, iv k.D, iv 0]) n c 3) (h : decide (lnF k.d k.e k.f = 1) = true) : RayI k (w64 (1 + 1)) C o n c := by
  rw [show w64 (1 + 1) = 2 from rfl]
  exact ⟨by decide, by decide, row_y1 hr h⟩
theorem ray_n1 {C : List Value} {o n c : Nat} (hI : RayI k 1 C o n c) (h : decide (lnF k.d k.e k.f = 1) = false) : RayI k (w64 (1 + 1)) C o n c := by
  rw [show w64 (1 + 1) = 2 from rfl]
  exact ⟨by decide, by decide, row_n1 hI.row h⟩
theorem ray_m1 : (3 - w64 (1 + 1)).toNat < (3 - 1 : Int).toNat := by decide
theorem ray_y2 {C : List Value} {o n c : Nat} (hr : RowO C o (sl ((genN k (Int.toNat 2)).map k.own) ++ [iv 0, iv 0, iv k.D]) n c 3) (h : decide (lnF k.g k.h k.i = 1) = true) : RayI k (w64 (2 + 1)) C o n c := by
  rw [show w64 (2 + 1) = 3 from rfl]
  exact ⟨by decide, by decide, row_y2 hr h⟩
theorem ray_n2 {C : List Value} {o n c : Nat} (hI : RayI k 2 C o n c) (h : decide (lnF k.g k.h k.i = 1) = false) : RayI k (w64 (2 + 1)) C o n c := by
  rw [show w64 (2 + 1) = 3 from rfl]
  exact ⟨by decide, by decide, row_n2 hI.row h⟩
theorem ray_m2 : (3 - w64 (2 + 1)).toNat < (3 - 2 : Int).toNat := by decide
end
end Go.Ev
