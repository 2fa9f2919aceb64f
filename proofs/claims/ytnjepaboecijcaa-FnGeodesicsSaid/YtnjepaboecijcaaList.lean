/-
  Rows of whole numbers and of points; what is read of them and written into them.
  Conditions: none.
-/
import Derived.Test.YtnjepaboecijcaaEvUse
import Derived.Test.YtnjepaboecijcaaSpec
set_option linter.unusedVariables false
set_option linter.unusedSimpArgs false
namespace Go.Ev
open Go.RowKit

abbrev iv (a : Int) : Value := .int .i64 a
def il (xs : List Int) : List Value := xs.map iv
def pl (ps : List (Int × Int)) : List Value := ps.flatMap fun p => [iv p.1, iv p.2]

theorem il_nil : il [] = [] := rfl
theorem il_app (xs ys : List Int) : il (xs ++ ys) = il xs ++ il ys := by simp [il]
theorem il_snoc (xs : List Int) (y : Int) : il (xs ++ [y]) = il xs ++ [iv y] := by simp [il]
theorem il_len (xs : List Int) : (il xs).length = xs.length := by simp [il]
theorem il_plain (xs : List Int) : Plain (il xs) := Plain.ints xs
theorem pl_nil : pl [] = [] := rfl
theorem pl_cons (p : Int × Int) (ps : List (Int × Int)) : pl (p :: ps) = iv p.1 :: iv p.2 :: pl ps := rfl
theorem pl_app (ps qs : List (Int × Int)) : pl (ps ++ qs) = pl ps ++ pl qs := by simp [pl]
theorem pl_snoc (ps : List (Int × Int)) (q : Int × Int) : pl (ps ++ [q]) = pl ps ++ [iv q.1, iv q.2] := by simp [pl]
theorem pl_len : ∀ (ps : List (Int × Int)), (pl ps).length = ps.length * 2
  | [] => rfl
  | p :: ps => by rw [pl_cons]; simp only [List.length_cons, pl_len ps]; omega
theorem pl_plain : ∀ (ps : List (Int × Int)), Plain (pl ps)
  | [], v, hv => by cases hv
  | p :: ps, v, hv => by
    rw [pl_cons] at hv
    rcases List.mem_cons.1 hv with rfl | hv
    · rfl
    · rcases List.mem_cons.1 hv with rfl | hv
      · rfl
      · exact pl_plain ps v hv

theorem Row.empty {es : Nat} : Row [] [] 0 0 es := ⟨by simp, by simp, Plain.nil, Plain.nil⟩
theorem Row.lit {L : List Value} {n es : Nat} (h : L.length = n * es) (hp : allL plain0 L = true) : Row L [] n n es := ⟨h, by simpa using h, Plain.of hp, Plain.nil⟩
theorem row_il {xs : List Int} {n c : Nat} {sp : List Value} (h : Row (il xs) sp n c 1) : xs.length = n := by have := h.len; rw [il_len] at this; omega
theorem row_pl {ps : List (Int × Int)} {n c : Nat} {sp : List Value} (h : Row (pl ps) sp n c 2) : ps.length = n := by have := h.len; rw [pl_len] at this; omega

theorem row_same {L sp sq : List Value} {n n2 c c2 es : Nat} (h1 : Row L sp n c es) (h2 : Row L sq n2 c2 es) (he : 0 < es) : n = n2 := by
  have := h1.len; have := h2.len
  exact Nat.eq_of_mul_eq_mul_right he (by omega)

/-! ### Reading -/

theorem force_eq {l l' : List Value} {k : List Value → Prop} (h : l = l') (hk : forceL l' k) : forceL l k := by rw [h]; exact hk

theorem pl_at : ∀ (ps : List (Int × Int)) (i : Nat) (sp : List Value), i < ps.length → List.drop (i * 2) (pl ps ++ sp) = iv (ps.getD i (0, 0)).1 :: iv (ps.getD i (0, 0)).2 :: (pl (ps.drop (i + 1)) ++ sp)
  | [], i, sp, h => by simp at h
  | p :: ps, 0, sp, h => by simp [pl_cons, List.getD]
  | p :: ps, i + 1, sp, h => by
    have := pl_at ps i sp (by simpa using h)
    rw [show (i + 1) * 2 = i * 2 + 2 by omega, pl_cons]
    simpa [List.getD] using this

/-- The i-th point. -/
theorem take_pt {ps : List (Int × Int)} {sp : List Value} {off i : Nat} (ho : off = i * 2) (hi : i < ps.length) :
    List.take 2 (List.drop off (pl ps ++ sp)) = [iv (ps.getD i (0, 0)).1, iv (ps.getD i (0, 0)).2] := by
  subst ho
  rw [pl_at ps i sp hi]
  rfl
theorem take_pt0 {ps : List (Int × Int)} {sp : List Value} {off i : Nat} (ho : off = i * 2) (hi : i < ps.length) :
    List.take 1 (List.drop off (pl ps ++ sp)) = [iv (ps.getD i (0, 0)).1] := by
  subst ho
  rw [pl_at ps i sp hi]
  rfl
theorem take_pt1 {ps : List (Int × Int)} {sp : List Value} {off i : Nat} (ho : off = i * 2 + 1) (hi : i < ps.length) :
    List.take 1 (List.drop off (pl ps ++ sp)) = [iv (ps.getD i (0, 0)).2] := by
  subst ho
  rw [show i * 2 + 1 = 1 + i * 2 by omega, ← List.drop_drop, List.drop_drop, Nat.add_comm, ← List.drop_drop, pl_at ps i sp hi]
  rfl
theorem take_il {xs : List Int} {sp : List Value} {off i : Nat} (ho : off = i) (hi : i < xs.length) :
    List.take 1 (List.drop off (il xs ++ sp)) = [iv (xs.getD i 0)] := by
  subst ho
  have h1 : off < (il xs ++ sp).length := by rw [List.length_append, il_len]; omega
  rw [List.drop_eq_getElem_cons h1]
  have : (il xs ++ sp)[off] = iv (xs.getD off 0) := by
    rw [List.getElem_append_left (by rw [il_len]; exact hi)]
    simp [il, List.getD, hi]
  rw [this]
  rfl

/-! ### Numbers of places -/

theorem w64_nat {n : Int} (h1 : 0 ≤ n) (h2 : n ≤ 9223372036854775807) : w64 n = n := w64_in (by omega) h2
theorem off_at {i : Int} {es : Nat} : 0 + i.toNat * es = i.toNat * es := Nat.zero_add _

/-- The guard of a place. -/
theorem br_in {i : Int} {n : Nat} {A B : Prop} (h1 : 0 ≤ i) (h2 : i < (n : Int)) (h : A) : brK (decide (0 ≤ i ∧ i < (n : Int))) A B := br_true (decide_eq_true ⟨h1, h2⟩) h

theorem idx_next {i : Int} {n : Nat} (h : 0 ≤ i ∧ i ≤ (n : Int)) (hc : decide (i < (n : Int)) = true) (hn : n ≤ 4611686018427387904) : 0 ≤ w64 (i + 1) ∧ w64 (i + 1) ≤ (n : Int) := by
  have := of_decide_eq_true hc
  rw [w64_in (by omega) (by omega)]; omega
theorem idx_mu {i : Int} {n : Nat} (h : 0 ≤ i ∧ i ≤ (n : Int)) (hc : decide (i < (n : Int)) = true) (hn : n ≤ 4611686018427387904) : ((n : Int) - w64 (i + 1)).toNat < ((n : Int) - i).toNat := by
  have := of_decide_eq_true hc
  rw [w64_in (by omega) (by omega)]; omega

/-! ### Marks -/

def marksI (k : Int) (m : Nat) : List Int := (List.range m).map fun (j : Nat) => k + (j : Int)
def marks (k : Int) (m : Nat) : List Value := il (marksI k m)
theorem marksI_len (k : Int) (m : Nat) : (marksI k m).length = m := by simp [marksI]
theorem marks_len (k : Int) (m : Nat) : (marks k m).length = m := by simp [marks, il_len, marksI_len]
theorem marks_succ (k : Int) (m : Nat) : marks k (m + 1) = marks k m ++ [iv (k + m)] := by simp [marks, marksI, List.range_succ, il]
theorem marks_plain (k : Int) (m : Nat) : Plain (marks k m) := il_plain _
theorem marksI_at {k : Int} {m i : Nat} (h : i < m) : (marksI k m).getD i 0 = k + i := by simp [marksI, List.getD, h]

theorem take_marks {k : Int} {m off : Nat} {sp : List Value} (h : off < m) : List.take 1 (List.drop off (marks k m ++ sp)) = [iv (k + off)] := by
  unfold marks
  rw [take_il rfl (by rw [marksI_len]; exact h), marksI_at h]

theorem br_store1 {off s : Nat} {cs : List Value} {v : Value} {A : Prop} (h1 : s = 1) (h : off + 1 ≤ cs.length) (hA : A) : StoreK (Nat.beq [v].length s && Nat.ble (off + [v].length) cs.length) A := by
  refine ⟨?_, hA⟩
  subst h1
  simp only [List.length_singleton, Bool.and_eq_true]
  exact ⟨rfl, Nat.ble_eq_true_of_le h⟩
theorem force_set {off : Nat} {cs : List Value} {v : Value} {k : List Value → Prop} (h : off < cs.length) (hk : k (cs.set off v)) : forceL (splice cs off [v]) k := by
  rw [forceL_eq]
  have : splice cs off [v] = cs.set off v := by
    rw [← splice_cons h]; simp [splice]
  rw [this]
  exact hk

theorem take_set {C : List Value} {m o : Nat} {v : Value} (ho : o = m) (hm : m < C.length) : List.take (m + 1) (C.set o v) = List.take m C ++ [v] := by
  subst ho
  apply List.ext_getElem?
  intro j
  simp only [List.getElem?_take, List.getElem?_set, List.getElem?_append, List.length_take]
  grind
theorem mark_set {C : List Value} {k : Int} {m o : Nat} {v : Value} (h : List.take m C = marks k m) (ho : o = m) (hm : m < C.length) (hv : v = iv (k + m)) : List.take (m + 1) (C.set o v) = marks k (m + 1) := by
  rw [take_set ho hm, h, marks_succ, hv]
theorem Plain.set {C : List Value} (h : Plain C) {v : Value} (hv : plain0 v = true) (o : Nat) : Plain (C.set o v) := fun u hu => by
  rcases List.mem_or_eq_of_mem_set hu with hu | rfl
  · exact h u hu
  · exact hv

/-- The state of a loop that marks: i of n elements of es cells are marked, from k on. -/
structure MarkI (k : Int) (n c es : Nat) (i q : Int) (C : List Value) : Prop where
  lo : 0 ≤ i
  hi : i ≤ (n : Int)
  q : q = k + es * i
  len : C.length = c * es
  pl : Plain C
  mrk : List.take (es * i.toNat) C = marks k (es * i.toNat)

theorem MarkI.start {L sp : List Value} {k : Int} {n c es : Nat} (h : Row L sp n c es) : MarkI k n c es 0 k (L ++ sp) :=
  ⟨Int.le_refl _, by omega, by simp, by rw [List.length_append]; exact h.cap, h.all, by simp [marks, marksI, il]⟩
theorem MarkI.next1 {k : Int} {n c : Nat} {i q : Int} {C : List Value} {o : Nat} (h : MarkI k n c 1 i q C) (hnc : n ≤ c) (hi : i < (n : Int)) (hn : n ≤ 1000000000) (hk : 0 ≤ k ∧ k ≤ 1000000000) (ho : o = i.toNat) :
    MarkI k n c 1 (w64 (i + 1)) (w64 (q + 1)) (C.set o (iv q)) := by
  have h1 := h.lo; have h2 := h.q; have h3 := h.len; have h4 := h.mrk
  have e1 : w64 (i + 1) = i + 1 := w64_in (by omega) (by omega)
  have e2 : w64 (q + 1) = q + 1 := w64_in (by omega) (by omega)
  rw [e1, e2]
  refine ⟨by omega, by omega, by omega, by rw [List.length_set]; exact h3, h.pl.set rfl _, ?_⟩
  have e3 : 1 * (i + 1).toNat = 1 * i.toNat + 1 := by omega
  rw [e3]
  exact mark_set h4 (by omega) (by omega) (by rw [h2]; congr 1; omega)
theorem MarkI.next2 {k : Int} {n c : Nat} {i q q2 : Int} {C : List Value} {o o2 : Nat} (h : MarkI k n c 2 i q C) (hnc : n ≤ c) (hi : i < (n : Int)) (hn : n ≤ 1000000000) (hk : 0 ≤ k ∧ k ≤ 1000000000) (ho : o = i.toNat * 2) (ho2 : o2 = i.toNat * 2 + 1) (hq : q2 = w64 (q + 1)) :
    MarkI k n c 2 (w64 (i + 1)) (w64 (q2 + 1)) ((C.set o (iv q)).set o2 (iv q2)) := by
  have h1 := h.lo; have h2 := h.q; have h3 := h.len; have h4 := h.mrk
  have e1 : w64 (i + 1) = i + 1 := w64_in (by omega) (by omega)
  have e2 : w64 (q + 1) = q + 1 := w64_in (by omega) (by omega)
  subst hq
  rw [e1, e2, w64_in (by omega) (by omega)]
  refine ⟨by omega, by omega, by omega, by rw [List.length_set, List.length_set]; exact h3, (h.pl.set rfl _).set rfl _, ?_⟩
  have e3 : 2 * (i + 1).toNat = 2 * i.toNat + 1 + 1 := by omega
  rw [e3]
  refine mark_set (mark_set h4 (by omega) (by omega) (by rw [h2]; congr 1; omega)) (by omega) (by rw [List.length_set]; omega) (by rw [h2]; congr 1; omega)
theorem MarkI.fin {k : Int} {n c es : Nat} {i q : Int} {C : List Value} (h : MarkI k n c es i q C) (hi : ¬ i < (n : Int)) : q = k + es * n ∧ C = marks k (n * es) ++ C.drop (n * es) ∧ Plain (C.drop (n * es)) ∧ (n ≤ c → Row (marks k (n * es)) (C.drop (n * es)) n c es) := by
  have h1 := h.lo; have h2 := h.hi; have h3 := h.q; have h4 := h.mrk; have h5 := h.len
  have hin : i = n := by omega
  subst hin
  simp only [Int.toNat_natCast] at h4
  rw [Nat.mul_comm es n] at h4
  refine ⟨h3, by rw [← h4, List.take_append_drop], h.pl.drop _, fun hnc => ⟨by rw [marks_len], ?_, marks_plain _ _, h.pl.drop _⟩⟩
  have := Nat.mul_le_mul_right es hnc
  rw [marks_len, List.length_drop, h5]
  omega

theorem held_next2 {k i q : Int} {n : Nat} (h : 0 ≤ i ∧ i ≤ (n : Int) ∧ q = k + 2 * i) (hi : i < (n : Int)) (hn : n ≤ 1000000000) (hk : 0 ≤ k ∧ k ≤ 1000000000) :
    0 ≤ w64 (i + 1) ∧ w64 (i + 1) ≤ (n : Int) ∧ w64 (w64 (q + 1) + 1) = k + 2 * w64 (i + 1) := by
  rw [w64_in (n := i + 1) (by omega) (by omega), w64_in (n := q + 1) (by omega) (by omega), w64_in (by omega) (by omega)]; omega
theorem held_next1 {k i q : Int} {n : Nat} (h : 0 ≤ i ∧ i ≤ (n : Int) ∧ q = k + 1 * i) (hi : i < (n : Int)) (hn : n ≤ 1000000000) (hk : 0 ≤ k ∧ k ≤ 1000000000) :
    0 ≤ w64 (i + 1) ∧ w64 (i + 1) ≤ (n : Int) ∧ w64 (q + 1) = k + 1 * w64 (i + 1) := by
  rw [w64_in (n := i + 1) (by omega) (by omega), w64_in (n := q + 1) (by omega) (by omega)]; omega
theorem held_fin {k i q e : Int} {n : Nat} (h : 0 ≤ i ∧ i ≤ (n : Int) ∧ q = k + e * i) (hi : ¬ i < (n : Int)) : q = k + e * n := by
  have : i = n := by omega
  rw [h.2.2, this]

end Go.Ev
