/-
  Vertices of sails: the plain law.
  Conditions: none.
-/
import Derived.Test.YtnjepaboecijcaaSail
import Derived.Test.YtnjepaboecijcaaConv
set_option linter.unusedVariables false
set_option linter.unusedSimpArgs false
namespace Go.Ev
open Go.RowKit

theorem sailF_len {b0 b1 : Int} : ∀ (k : Nat) {u v x y : Int} {ps : List (Int × Int)} {cs : List Int}, sailF b0 b1 k u v x y = some (ps, cs) → ps.length = cs.length + 1
  | 0, u, v, x, y, ps, cs, h => by cases h
  | k + 1, u, v, x, y, ps, cs, h => by
    rw [sailF] at h
    split at h
    · cases h; rfl
    · cases hr : sailF b0 b1 k x y (turnL b0 b1 u v x y * x - u) (turnL b0 b1 u v x y * y - v) with
      | none => rw [hr] at h; cases h
      | some r =>
        obtain ⟨p, q⟩ := r
        rw [hr] at h
        simp only [Option.map_some, Option.some.injEq, Prod.mk.injEq] at h
        obtain ⟨rfl, rfl⟩ := h
        have := sailF_len k hr
        simp [this]
theorem sailT_len {a0 a1 b0 b1 t0 : Int} {P : List (Int × Int)} {T : List Int} (h : sailT a0 a1 b0 b1 t0 = some (P, T)) : P.length = T.length + 1 := by
  unfold sailT at h
  cases hr : sailR a0 a1 b0 b1 with
  | none => rw [hr] at h; cases h
  | some r =>
    obtain ⟨p, q⟩ := r
    rw [hr] at h
    simp only [Option.map_some, Option.some.injEq, Prod.mk.injEq] at h
    obtain ⟨rfl, rfl⟩ := h
    have := sailF_len _ hr
    simp [this]

/-- Is place i a vertex? -/
def vertP (t : List Int) (i : Nat) : Bool := decide (i = 0) || decide (i + 1 = t.length) || decide (t.getD i 0 > 2)
/-- The vertices among the first i places. -/
def vertTo (t : List Int) (i : Nat) : List Nat := (List.range i).filter (vertP t)
theorem vertTo_succ (t : List Int) (i : Nat) : vertTo t (i + 1) = vertTo t i ++ (if vertP t i then [i] else []) := by
  unfold vertTo
  rw [List.range_succ, List.filter_append]
  congr 1
  by_cases h : vertP t i <;> simp [h]
theorem vertTo_lt {t : List Int} {i k : Nat} (h : k ∈ vertTo t i) : k < i := by
  have := (List.mem_filter.1 h).1
  exact List.mem_range.1 this
theorem vertTo_len (t : List Int) (i : Nat) : (vertTo t i).length ≤ i := by
  have := List.length_filter_le (vertP t) (List.range i)
  rw [List.length_range] at this
  exact this

/-- The state of the loop that lists the vertices' places. -/
structure VertI (t : List Int) (i : Int) (L sp : List Value) (n c : Nat) : Prop where
  lo : 0 ≤ i
  hi : i ≤ (t.length : Int)
  row : Row L sp n c 1
  lst : L = il ((vertTo t i.toNat).map Int.ofNat)
  num : n ≤ i.toNat
theorem VertI.start (t : List Int) : VertI t 0 [] [] 0 0 := ⟨by omega, by omega, Row.empty, rfl, by omega⟩

theorem vert_iff {t : List Int} {i : Int} (h0 : 0 ≤ i) (hi : i < (t.length : Int)) (hl : t.length ≤ 2000) : vertP t i.toNat = true ↔ (i = 0 ∨ i = w64 ((t.length : Int) - 1) ∨ t.getD i.toNat 0 > 2) := by
  rw [w64_in (by omega) (by omega)]
  simp only [vertP, Bool.or_eq_true, decide_eq_true_eq]
  constructor
  · rintro ((h | h) | h)
    · exact .inl (by omega)
    · exact .inr (.inl (by omega))
    · exact .inr (.inr h)
  · rintro (h | h | h)
    · exact .inl (.inl (by omega))
    · exact .inl (.inr (by omega))
    · exact .inr h
theorem VertI.add {t : List Int} {i : Int} {L sp sp' : List Value} {n c c' : Nat} (h : VertI t i L sp n c) (hi : i < (t.length : Int)) (hl : t.length ≤ 2000) (hv : i = 0 ∨ i = w64 ((t.length : Int) - 1) ∨ t.getD i.toNat 0 > 2)
    (hr : Row (L ++ [iv i]) sp' (n + 1) c' 1) : VertI t (w64 (i + 1)) (L ++ [iv i]) sp' (n + 1) c' := by
  have h1 := h.lo
  have hp := (vert_iff h1 hi hl).2 hv
  rw [w64_in (by omega) (by omega)]
  have e : (i + 1).toNat = i.toNat + 1 := by omega
  refine ⟨by omega, by omega, hr, ?_, by have := h.num; omega⟩
  rw [e, vertTo_succ, if_pos hp, List.map_append, il_app, h.lst]
  have : Int.ofNat i.toNat = i := by simp; omega
  rw [List.map_cons, List.map_nil, this]
  rfl
theorem VertI.skip {t : List Int} {i : Int} {L sp : List Value} {n c : Nat} (h : VertI t i L sp n c) (hi : i < (t.length : Int)) (hl : t.length ≤ 2000) (hv : ¬ (i = 0 ∨ i = w64 ((t.length : Int) - 1) ∨ t.getD i.toNat 0 > 2)) :
    VertI t (w64 (i + 1)) L sp n c := by
  have h1 := h.lo
  have hp : ¬ vertP t i.toNat = true := fun hh => hv ((vert_iff h1 hi hl).1 hh)
  rw [w64_in (by omega) (by omega)]
  have e : (i + 1).toNat = i.toNat + 1 := by omega
  refine ⟨by omega, by omega, h.row, ?_, by have := h.num; omega⟩
  rw [e, vertTo_succ, if_neg hp, List.append_nil, h.lst]
theorem VertI.fin {t : List Int} {i : Int} {L sp : List Value} {n c : Nat} (h : VertI t i L sp n c) (hi : ¬ i < (t.length : Int)) : L = il ((vertTo t t.length).map Int.ofNat) ∧ n ≤ t.length := by
  have h1 := h.lo; have h2 := h.hi; have h3 := h.num
  have e : i.toNat = t.length := by omega
  exact ⟨by rw [h.lst, e], by omega⟩

/-- The state of a loop that picks points by a list of places. -/
structure PickI (P : List (Int × Int)) (W : List Nat) (m : Int) (L sp : List Value) (n c : Nat) : Prop where
  lo : 0 ≤ m
  hi : m ≤ (W.length : Int)
  row : Row L sp n c 2
  lst : L = pl ((W.take m.toNat).map fun i => P.getD i (0, 0))
  num : n ≤ m.toNat
theorem PickI.start (P : List (Int × Int)) (W : List Nat) : PickI P W 0 [] [] 0 0 := ⟨by omega, by omega, Row.empty, rfl, by omega⟩
theorem pick_at {W : List Nat} {m : Int} (h0 : 0 ≤ m) (hi : m < (W.length : Int)) : (W.map Int.ofNat).getD m.toNat 0 = (W.getD m.toNat 0 : Int) := by
  have : m.toNat < W.length := by omega
  simp [List.getD, this]
theorem pick_lt {W : List Nat} {m : Int} {N : Nat} (h0 : 0 ≤ m) (hi : m < (W.length : Int)) (hW : ∀ k ∈ W, k < N) : 0 ≤ (W.map Int.ofNat).getD m.toNat 0 ∧ (W.map Int.ofNat).getD m.toNat 0 < (N : Int) := by
  have hm : m.toNat < W.length := by omega
  rw [pick_at h0 hi]
  have : W.getD m.toNat 0 ∈ W := getD_mem hm
  have := hW _ this
  omega
theorem PickI.next {P : List (Int × Int)} {W : List Nat} {m : Int} {L sp sp' : List Value} {n c c' : Nat} (h : PickI P W m L sp n c) (hi : m < (W.length : Int)) (hl : W.length ≤ 100000)
    (hr : Row (L ++ [iv (P.getD ((W.map Int.ofNat).getD m.toNat 0).toNat (0, 0)).1, iv (P.getD ((W.map Int.ofNat).getD m.toNat 0).toNat (0, 0)).2]) sp' (n + 1) c' 2) :
    PickI P W (w64 (m + 1)) (L ++ [iv (P.getD ((W.map Int.ofNat).getD m.toNat 0).toNat (0, 0)).1, iv (P.getD ((W.map Int.ofNat).getD m.toNat 0).toNat (0, 0)).2]) sp' (n + 1) c' := by
  have h1 := h.lo
  rw [w64_in (by omega) (by omega)]
  have e : (m + 1).toNat = m.toNat + 1 := by omega
  refine ⟨by omega, by omega, hr, ?_, by have := h.num; omega⟩
  rw [e, take_succ_getD (d := 0) (by omega), List.map_append, List.map_cons, List.map_nil, pl_snoc, h.lst, pick_at h1 hi]
  rfl
theorem PickI.fin {P : List (Int × Int)} {W : List Nat} {m : Int} {L sp : List Value} {n c : Nat} (h : PickI P W m L sp n c) (hi : ¬ m < (W.length : Int)) : L = pl (W.map fun i => P.getD i (0, 0)) := by
  have h1 := h.hi
  rw [h.lst, List.take_of_length_le (by omega)]

/-- The state of the spec's loop that picks the vertices. -/
structure PtvI (P : List (Int × Int)) (t : List Int) (N : Nat) (i : Int) (L sp : List Value) (n c : Nat) : Prop where
  lo : 0 ≤ i
  hi : i ≤ (N : Int)
  row : Row L sp n c 2
  lst : L = pl ((vertTo t i.toNat).map fun k => P.getD k (0, 0))
  num : n ≤ i.toNat
theorem PtvI.start (P : List (Int × Int)) (t : List Int) (N : Nat) : PtvI P t N 0 [] [] 0 0 := ⟨by omega, by omega, Row.empty, rfl, by omega⟩
theorem PtvI.add {P : List (Int × Int)} {t : List Int} {N : Nat} {i : Int} {L sp sp' : List Value} {n c c' : Nat} (h : PtvI P t N i L sp n c) (hN : N = t.length) (hi : i < (N : Int)) (hl : N ≤ 2000) (hv : i = 0 ∨ i = w64 ((N : Int) - 1) ∨ t.getD i.toNat 0 > 2)
    (hr : Row (L ++ [iv (P.getD i.toNat (0, 0)).1, iv (P.getD i.toNat (0, 0)).2]) sp' (n + 1) c' 2) : PtvI P t N (w64 (i + 1)) (L ++ [iv (P.getD i.toNat (0, 0)).1, iv (P.getD i.toNat (0, 0)).2]) sp' (n + 1) c' := by
  subst hN
  have h1 := h.lo
  have hp := (vert_iff h1 hi hl).2 hv
  rw [w64_in (by omega) (by omega)]
  have e : (i + 1).toNat = i.toNat + 1 := by omega
  refine ⟨by omega, by omega, hr, ?_, by have := h.num; omega⟩
  rw [e, vertTo_succ, if_pos hp, List.map_append, List.map_cons, List.map_nil, pl_snoc, h.lst]
theorem PtvI.skip {P : List (Int × Int)} {t : List Int} {N : Nat} {i : Int} {L sp : List Value} {n c : Nat} (h : PtvI P t N i L sp n c) (hN : N = t.length) (hi : i < (N : Int)) (hl : N ≤ 2000) (hv : ¬ (i = 0 ∨ i = w64 ((N : Int) - 1) ∨ t.getD i.toNat 0 > 2)) :
    PtvI P t N (w64 (i + 1)) L sp n c := by
  subst hN
  have h1 := h.lo
  have hp : ¬ vertP t i.toNat = true := fun hh => hv ((vert_iff h1 hi hl).1 hh)
  rw [w64_in (by omega) (by omega)]
  have e : (i + 1).toNat = i.toNat + 1 := by omega
  refine ⟨by omega, by omega, h.row, ?_, by have := h.num; omega⟩
  rw [e, vertTo_succ, if_neg hp, List.append_nil, h.lst]
theorem PtvI.fin {P : List (Int × Int)} {t : List Int} {N : Nat} {i : Int} {L sp : List Value} {n c : Nat} (h : PtvI P t N i L sp n c) (hN : N = t.length) (hi : ¬ i < (N : Int)) : L = pl ((vertTo t t.length).map fun k => P.getD k (0, 0)) := by
  have h1 := h.lo; have h2 := h.hi
  rw [h.lst, show i.toNat = t.length by omega]

/-- The two lists of turns, told with different ends, have the same vertices. -/
theorem vertTo_ends (x y : Int) (cs : List Int) (i : Nat) (hi : i ≤ cs.length + 2) : vertTo (x :: cs ++ [x]) i = vertTo (y :: cs ++ [y]) i := by
  unfold vertTo
  apply List.filter_congr
  intro k hk
  have hk' : k < cs.length + 2 := by have := List.mem_range.1 hk; omega
  unfold vertP
  by_cases h0 : k = 0
  · simp [h0]
  · by_cases h1 : k + 1 = cs.length + 2
    · simp [h1]
    · have : (x :: cs ++ [x]).getD k 0 = (y :: cs ++ [y]).getD k 0 := by
        obtain ⟨j, rfl⟩ : ∃ j, k = j + 1 := ⟨k - 1, by omega⟩
        have hj : j < cs.length := by omega
        simp [List.getD, List.getElem?_append_left, hj]
      rw [this]
      simp

end Go.Ev
