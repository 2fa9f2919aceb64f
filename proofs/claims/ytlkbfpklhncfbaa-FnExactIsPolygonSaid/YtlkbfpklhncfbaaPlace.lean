/-
  Places on sails, and points told by two neighbours of a sail: the plain law.
  Conditions: none.
-/
import Derived.Test.YtlkbfpklhncfbaaSeq
set_option linter.unusedVariables false
set_option linter.unusedSimpArgs false
namespace Go.Ev
open Go.RowKit

/-- The first place k of a list at which a point stands, counted from k on; -1 if there is none. -/
def idxP (a b : Int) : List (Int × Int) → Int → Int
  | [], _ => -1
  | p :: ps, k => if p.1 = a ∧ p.2 = b then k else idxP a b ps (k + 1)

structure PlcI (P : List (Int × Int)) (a b i : Int) : Prop where
  lo : 0 ≤ i
  hi : i ≤ (P.length : Int)
  eq : idxP a b (P.drop i.toNat) i = idxP a b P 0
theorem PlcI.start (P : List (Int × Int)) (a b : Int) : PlcI P a b 0 := ⟨by omega, by omega, rfl⟩
section
variable {P : List (Int × Int)} {a b i : Int}
theorem drop_at {P : List (Int × Int)} {k : Nat} (h : k < P.length) : P.drop k = P.getD k (0, 0) :: P.drop (k + 1) := by
  rw [List.drop_eq_getElem_cons h]
  simp [List.getD, h]
theorem PlcI.hit (h : PlcI P a b i) (hi : i < (P.length : Int)) (h1 : (P.getD i.toNat (0, 0)).1 = a) (h2 : (P.getD i.toNat (0, 0)).2 = b) : idxP a b P 0 = i := by
  have h0 := h.lo
  rw [← h.eq, drop_at (by omega), idxP, if_pos ⟨h1, h2⟩]
theorem PlcI.next (h : PlcI P a b i) (hi : i < (P.length : Int)) (hl : P.length ≤ 1000000) (h1 : ¬ ((P.getD i.toNat (0, 0)).1 = a ∧ (P.getD i.toNat (0, 0)).2 = b)) : PlcI P a b (w64 (i + 1)) := by
  have h0 := h.lo
  rw [w64_in (by omega) (by omega)]
  refine ⟨by omega, by omega, ?_⟩
  rw [← h.eq, drop_at (k := i.toNat) (by omega), idxP, if_neg h1, show (i + 1).toNat = i.toNat + 1 by omega]
theorem PlcI.fin (h : PlcI P a b i) (hi : ¬ i < (P.length : Int)) : idxP a b P 0 = -1 := by
  have h0 := h.hi
  rw [← h.eq, List.drop_eq_nil_of_le (by omega)]
  rfl
end
theorem PlcI.mu {P : List (Int × Int)} {a b i : Int} (h : PlcI P a b i) (hi : i < (P.length : Int)) (hl : P.length ≤ 1000000) : ((P.length : Int) - w64 (i + 1)).toNat < ((P.length : Int) - i).toNat := by
  have h0 := h.lo
  rw [w64_in (by omega) (by omega)]; omega

/-! ### Points of sails -/

theorem sailF_pts {a0 a1 b0 b1 : Int} (hg : Int.gcd b0 b1 = 1) : ∀ (k : Nat) {u v x y : Int} {ps : List (Int × Int)} {cs : List Int}, SailI a0 a1 b0 b1 u v x y → sailF b0 b1 k u v x y = some (ps, cs) →
    (∀ p ∈ ps, isPtF p.1 p.2 = true) ∧ ps.getD (ps.length - 1) (0, 0) = (b0, b1) ∧ 1 ≤ ps.length
  | 0, u, v, x, y, ps, cs, hI, h => by cases h
  | k + 1, u, v, x, y, ps, cs, hI, h => by
    rw [sailF] at h
    split at h
    · rename_i hd
      cases h
      refine ⟨fun p hp => ?_, ?_, by simp⟩
      · rw [List.mem_singleton] at hp; subst hp; exact hI.pt
      · obtain ⟨rfl, rfl⟩ := (hI.last hg).1 hd; rfl
    · rename_i hd
      cases hr : sailF b0 b1 k x y (turnL b0 b1 u v x y * x - u) (turnL b0 b1 u v x y * y - v) with
      | none => rw [hr] at h; cases h
      | some r =>
        obtain ⟨p, q⟩ := r
        rw [hr] at h
        simp only [Option.map_some, Option.some.injEq, Prod.mk.injEq] at h
        obtain ⟨rfl, rfl⟩ := h
        obtain ⟨h1, h2, h3⟩ := sailF_pts hg k (hI.turn hd).2.2 hr
        refine ⟨fun z hz => ?_, ?_, by simp⟩
        · rcases List.mem_cons.1 hz with rfl | hz
          · exact hI.pt
          · exact h1 z hz
        · rw [show ((x, y) :: p).length - 1 = p.length - 1 + 1 by simp; omega, List.getD_cons_succ]
          exact h2
theorem sailT_pts {a b c d t0 : Int} {P : List (Int × Int)} {T : List Int} (h : AngOk a b c d) (ht : sailT a b c d t0 = some (P, T)) :
    (∀ p ∈ P, isPtF p.1 p.2 = true) ∧ P.getD (P.length - 1) (0, 0) = (c, d) ∧ P.getD 0 (0, 0) = (a, b) ∧ 2 ≤ P.length := by
  unfold sailT at ht
  cases hr : sailR a b c d with
  | none => rw [hr] at ht; cases ht
  | some r =>
    obtain ⟨p, q⟩ := r
    rw [hr] at ht
    simp only [Option.map_some, Option.some.injEq, Prod.mk.injEq] at ht
    obtain ⟨rfl, rfl⟩ := ht
    obtain ⟨h1, h2, h3⟩ := sailF_pts h.gcd _ h.start hr
    refine ⟨fun z hz => ?_, ?_, rfl, by simp; omega⟩
    · rcases List.mem_cons.1 hz with rfl | hz
      · exact h.ca
      · exact h1 z hz
    · rw [show ((a, b) :: p).length - 1 = p.length - 1 + 1 by simp; omega, List.getD_cons_succ]
      exact h2

/-! ### Points told by two neighbours -/

/-- The determinant of a point and the (i + 1)-th point of a list, and of the i-th one and the point. -/
def splK (P : List (Int × Int)) (e f : Int) (i : Nat) : Int := detF e f (P.getD (i + 1) (0, 0)).1 (P.getD (i + 1) (0, 0)).2
def splL (P : List (Int × Int)) (e f : Int) (i : Nat) : Int := detF (P.getD i (0, 0)).1 (P.getD i (0, 0)).2 e f
/-- The first place from i on, among k, at which the determinant is greater than 0; else the one behind them. -/
def splN (P : List (Int × Int)) (e f : Int) : Nat → Nat → Nat
  | 0, i => i
  | k + 1, i => if splK P e f i > 0 then i else splN P e f k (i + 1)
def splAt (P : List (Int × Int)) (e f : Int) : Nat := splN P e f (P.length - 2) 0

theorem det_anti {a b e f : Int} (h1 : isPtF a b = true) (h2 : isPtF e f = true) : detF a b e f = -(detF e f a b) ∧ detF e f a b = e * b - f * a := by
  rw [isPtF_iff] at h1 h2
  have h3 := mul_abs (x := a) (y := f) (m := 1000000) (n := 1000000) (by omega) (by omega) (by omega) (by omega) (by omega)
  have h4 := mul_abs (x := b) (y := e) (m := 1000000) (n := 1000000) (by omega) (by omega) (by omega) (by omega) (by omega)
  unfold detF
  rw [Int.mul_comm e b, Int.mul_comm f a, w64_in (n := a * f) (by omega) (by omega), w64_in (n := b * e) (by omega) (by omega), w64_in (by omega) (by omega), w64_in (by omega) (by omega)]
  omega

structure SplI (P : List (Int × Int)) (e f i : Int) : Prop where
  lo : 0 ≤ i
  hi : i + 2 ≤ (P.length : Int)
  eq : splN P e f (P.length - 2 - i.toNat) i.toNat = splAt P e f
  l : splL P e f i.toNat ≥ 0
structure SplOk (P : List (Int × Int)) (e f : Int) : Prop where
  two : 2 ≤ P.length
  len : P.length ≤ 2000
  pts : ∀ p ∈ P, isPtF p.1 p.2 = true
  pt : isPtF e f = true
  one : splL P e f 0 ≥ 0
  last : splK P e f (P.length - 2) ≥ 0
theorem SplOk.of {a b c d e f t0 : Int} {P : List (Int × Int)} {T : List Int} (h : AngOk a b c d) (ht : sailT a b c d t0 = some (P, T)) (hl : P.length ≤ 2000) (hp : isPtF e f = true) (h1 : detF a b e f ≥ 0) (h2 : detF e f c d ≥ 0) : SplOk P e f := by
  obtain ⟨g1, g2, g3, g4⟩ := sailT_pts h ht
  refine ⟨g4, hl, g1, hp, ?_, ?_⟩
  · unfold splL; rw [g3]; exact h1
  · unfold splK; rw [show P.length - 2 + 1 = P.length - 1 by omega, g2]; exact h2
section
variable {P : List (Int × Int)} {e f i : Int}
theorem SplI.start (h : SplOk P e f) : SplI P e f 0 := ⟨by omega, by have := h.two; omega, rfl, h.one⟩
/-- The loop goes on. -/
theorem SplI.next (h : SplI P e f i) (ho : SplOk P e f) (hi : i + 2 < (P.length : Int)) (hk : ¬ splK P e f i.toNat > 0) : SplI P e f (w64 (i + 1)) := by
  have h0 := h.lo; have h5 := ho.len
  rw [w64_in (by omega) (by omega)]
  have e1 : (i + 1).toNat = i.toNat + 1 := by omega
  refine ⟨by omega, by omega, ?_, ?_⟩
  · rw [← h.eq, e1, show P.length - 2 - i.toNat = P.length - 2 - (i.toNat + 1) + 1 by omega, splN, if_neg hk]
  · rw [e1]
    have h1 : isPtF (P.getD (i.toNat + 1) (0, 0)).1 (P.getD (i.toNat + 1) (0, 0)).2 = true := ho.pts _ (getD_mem (by omega))
    have := (det_anti h1 ho.pt).1
    unfold splL splK at *
    omega
theorem SplI.mu (h : SplI P e f i) (ho : SplOk P e f) (hi : i + 2 ≤ (P.length : Int)) : ((P.length : Int) - w64 (i + 1)).toNat < ((P.length : Int) - i).toNat := by
  have h0 := h.lo; have h5 := ho.len
  rw [w64_in (by omega) (by omega)]; omega
theorem SplI.hit (h : SplI P e f i) (ho : SplOk P e f) (hk : splK P e f i.toNat > 0) : (splAt P e f : Int) = i := by
  have h0 := h.lo; have h1 := h.hi
  rw [← h.eq]
  by_cases hi : i + 2 = (P.length : Int)
  · rw [show P.length - 2 - i.toNat = 0 by omega]; show (i.toNat : Int) = i; omega
  · rw [show P.length - 2 - i.toNat = P.length - 2 - i.toNat - 1 + 1 by omega, splN, if_pos hk]; omega
theorem SplI.end_ (h : SplI P e f i) (ho : SplOk P e f) (hi : ¬ i + 2 < (P.length : Int)) : (splAt P e f : Int) = i := by
  have h0 := h.lo; have h1 := h.hi
  rw [← h.eq, show P.length - 2 - i.toNat = 0 by omega]; show (i.toNat : Int) = i; omega
theorem SplI.k (h : SplI P e f i) (ho : SplOk P e f) (hi : ¬ i + 2 < (P.length : Int)) : splK P e f i.toNat ≥ 0 := by
  have h0 := h.lo; have h1 := h.hi; have := ho.last
  rw [show i.toNat = P.length - 2 by omega]; exact this
end
/-- The three numbers. -/
def spl3 (P : List (Int × Int)) (e f : Int) : List Int := [(splAt P e f : Int), splK P e f (splAt P e f), splL P e f (splAt P e f)]
theorem SplI.three {P : List (Int × Int)} {e f i : Int} (h : SplI P e f i) (ha : (splAt P e f : Int) = i) : [i, splK P e f i.toNat, splL P e f i.toNat] = spl3 P e f := by
  unfold spl3
  rw [ha, show i.toNat = splAt P e f by omega]
theorem splK_w {P : List (Int × Int)} {e f i : Int} (h0 : 0 ≤ i) (h1 : i ≤ 2000) : detF e f (P.getD (w64 (i + 1)).toNat (0, 0)).1 (P.getD (w64 (i + 1)).toNat (0, 0)).2 = splK P e f i.toNat := by
  unfold splK
  rw [w64_in (by omega) (by omega), show (i + 1).toNat = i.toNat + 1 by omega]

end Go.Ev
