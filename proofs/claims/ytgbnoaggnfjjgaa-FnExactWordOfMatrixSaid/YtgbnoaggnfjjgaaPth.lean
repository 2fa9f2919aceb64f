/-
  Paths of fractions: the plain law.
  Conditions: none.
-/
import Derived.Test.YtgbnoaggnfjjgaaMath
import Derived.Test.YtgbnoaggnfjjgaaEvDead
set_option linter.unusedVariables false
set_option linter.unusedSimpArgs false
namespace Go.Ev

/-- The letters from p, q down to two equal numbers, at most k of them. -/
def pathL : Nat → Int → Int → Option (List UInt8)
  | 0, p, q => if p = q then some [] else none
  | k + 1, p, q => if p = q then some [] else if p < q then (pathL k p (q - p)).map (76 :: ·) else (pathL k (p - q) q).map (82 :: ·)

theorem str_add (l m : List UInt8) : (⟨l.toArray⟩ : ByteArray) ++ ⟨m.toArray⟩ = ⟨(l ++ m).toArray⟩ := by
  apply ByteArray.ext
  simp
theorem str_size (l : List UInt8) : (⟨l.toArray⟩ : ByteArray).size = l.length := by
  show l.toArray.size = _
  simp

structure PthI (a b p q : Int) (l : List UInt8) : Prop where
  p1 : 1 ≤ p
  p2 : p ≤ 1000000
  q1 : 1 ≤ q
  q2 : q ≤ 1000000
  len : l.length ≤ 60
  eq : (pathL (60 - l.length) p q).map (l ++ ·) = pathL 60 a b
section
variable {a b p q : Int} {l : List UInt8}
theorem PthI.start (ha : 1 ≤ a) (hb : 1 ≤ b) (h : isPtF a b = true) : PthI a b a b [] := by
  rw [isPtF_iff] at h
  exact ⟨ha, by omega, hb, by omega, by simp, by simp⟩
theorem PthI.stop (h : PthI a b p q l) (he : p = q) : pathL 60 a b = some l := by
  rw [← h.eq]
  cases 60 - l.length <;> simp [pathL, he]
theorem PthI.lim (h : PthI a b p q l) (he : ¬ p = q) (hl : l.length = 60) : pathL 60 a b = none := by
  rw [← h.eq, hl]
  simp [pathL, he]
theorem PthI.left (h : PthI a b p q l) (hl : ¬ l.length = 60) (hlt : p < q) : PthI a b p (w64 (q - p)) (l ++ [76]) := by
  obtain ⟨h1, h2, h3, h4, h5, h6⟩ := h
  rw [w64_in (by omega) (by omega)]
  refine ⟨h1, h2, by omega, by omega, by simp; omega, ?_⟩
  rw [← h6, show 60 - l.length = (60 - (l ++ [76]).length) + 1 by simp; omega, pathL, if_neg (by omega), if_pos hlt, Option.map_map]
  congr 1
  funext x
  simp
theorem PthI.right (h : PthI a b p q l) (hl : ¬ l.length = 60) (hne : ¬ p = q) (hlt : ¬ p < q) : PthI a b (w64 (p - q)) q (l ++ [82]) := by
  obtain ⟨h1, h2, h3, h4, h5, h6⟩ := h
  rw [w64_in (by omega) (by omega)]
  refine ⟨by omega, by omega, h3, h4, by simp; omega, ?_⟩
  rw [← h6, show 60 - l.length = (60 - (l ++ [82]).length) + 1 by simp; omega, pathL, if_neg hne, if_neg hlt, Option.map_map]
  congr 1
  funext x
  simp
end

/-- The state with the string. -/
structure PthS (a b p q : Int) (s : ByteArray) (l : List UInt8) : Prop where
  inv : PthI a b p q l
  str : s = ⟨l.toArray⟩
section
variable {a b p q : Int} {l : List UInt8} {s : ByteArray}
theorem PthS.size (h : PthS a b p q s l) : s.size = l.length := by rw [h.str, str_size]
theorem PthS.start (ha : 1 ≤ a) (hb : 1 ≤ b) (h : isPtF a b = true) : PthS a b a b ⟨#[]⟩ [] := ⟨.start ha hb h, rfl⟩
theorem PthS.at60 (h : PthS a b p q s l) (hs : decide ((s.size : Int) = 60) = false) : ¬ l.length = 60 := fun hl => of_decide_eq_false hs (by rw [h.size]; omega)
theorem PthS.left (h : PthS a b p q s l) (hs : decide ((s.size : Int) = 60) = false) (hlt : decide (p < q) = true) : PthS a b p (w64 (q - p)) (s ++ ⟨#[76]⟩) (l ++ [76]) :=
  ⟨h.inv.left (h.at60 hs) (of_decide_eq_true hlt), by rw [h.str]; exact str_add l [76]⟩
theorem PthS.right (h : PthS a b p q s l) (hs : decide ((s.size : Int) = 60) = false) (hne : decide (p = q) = false) (hlt : decide (p < q) = false) : PthS a b (w64 (p - q)) q (s ++ ⟨#[82]⟩) (l ++ [82]) :=
  ⟨h.inv.right (h.at60 hs) (of_decide_eq_false hne) (of_decide_eq_false hlt), by rw [h.str]; exact str_add l [82]⟩
theorem PthS.mu (h : PthS a b p q s l) (hs : decide ((s.size : Int) = 60) = false) (x : UInt8) : 60 - (l ++ [x]).length < 60 - l.length := by
  have := h.at60 hs; have := h.inv.len; simp; omega
theorem PthS.fin (h : PthS a b p q s l) (he : decide (p = q) = true) {m : List UInt8} (hm : pathL 60 a b = some m) : s = ⟨m.toArray⟩ := by
  have := h.inv.stop (of_decide_eq_true he)
  rw [hm] at this
  cases this
  exact h.str
theorem PthS.nfin (h : PthS a b p q s l) (he : decide (p = q) = true) (hm : pathL 60 a b = none) : False := by
  have := h.inv.stop (of_decide_eq_true he)
  rw [hm] at this
  cases this
theorem PthS.nlim (h : PthS a b p q s l) (he : decide (p = q) = false) (hs : decide ((s.size : Int) = 60) = true) {m : List UInt8} (hm : pathL 60 a b = some m) : False := by
  have := h.inv.lim (of_decide_eq_false he) (by have := of_decide_eq_true hs; rw [h.size] at this; omega)
  rw [hm] at this
  cases this
end

/-- The state with the builder's row. -/
structure PthB (a b p q : Int) (L sp : List Value) (n c : Nat) (l : List UInt8) : Prop where
  inv : PthI a b p q l
  row : Row L sp n c 1
  cells : L = Lib.byteCells l
  ne : l ≠ []
section
variable {a b p q : Int} {l : List UInt8} {L sp : List Value} {n c : Nat}
theorem PthB.num (h : PthB a b p q L sp n c l) : l.length = n := by
  have h1 := h.row.len
  rw [h.cells, Lib.byteCells_length] at h1; omega
theorem PthB.at60 (h : PthB a b p q L sp n c l) (hs : decide ((n : Int) = 60) = false) : ¬ l.length = 60 := fun hl => of_decide_eq_false hs (by have := h.num; omega)
theorem PthB.left (h : PthB a b p q L sp n c l) (hs : decide ((n : Int) = 60) = false) (hlt : decide (p < q) = true) {sp' : List Value} {n' c' : Nat} (hr : Row (L ++ Lib.strCells ⟨#[76]⟩) sp' n' c' 1) : PthB a b p (w64 (q - p)) (L ++ Lib.strCells ⟨#[76]⟩) sp' n' c' (l ++ [76]) :=
  ⟨h.inv.left (h.at60 hs) (of_decide_eq_true hlt), hr, by rw [h.cells, Lib.byteCells_append]; rfl, by simp⟩
theorem PthB.right (h : PthB a b p q L sp n c l) (hs : decide ((n : Int) = 60) = false) (hne : decide (p = q) = false) (hlt : decide (p < q) = false) {sp' : List Value} {n' c' : Nat} (hr : Row (L ++ Lib.strCells ⟨#[82]⟩) sp' n' c' 1) : PthB a b (w64 (p - q)) q (L ++ Lib.strCells ⟨#[82]⟩) sp' n' c' (l ++ [82]) :=
  ⟨h.inv.right (h.at60 hs) (of_decide_eq_false hne) (of_decide_eq_false hlt), hr, by rw [h.cells, Lib.byteCells_append]; rfl, by simp⟩
theorem PthB.left0 (h : PthI a b p q []) (hlt : decide (p < q) = true) {sp' : List Value} {n' c' : Nat} (hr : Row (Lib.strCells ⟨#[76]⟩) sp' n' c' 1) : PthB a b p (w64 (q - p)) (Lib.strCells ⟨#[76]⟩) sp' n' c' [76] :=
  ⟨h.left (by simp) (of_decide_eq_true hlt), hr, rfl, by simp⟩
theorem PthB.right0 (h : PthI a b p q []) (hne : decide (p = q) = false) (hlt : decide (p < q) = false) {sp' : List Value} {n' c' : Nat} (hr : Row (Lib.strCells ⟨#[82]⟩) sp' n' c' 1) : PthB a b (w64 (p - q)) q (Lib.strCells ⟨#[82]⟩) sp' n' c' [82] :=
  ⟨h.right (by simp) (of_decide_eq_false hne) (of_decide_eq_false hlt), hr, rfl, by simp⟩
theorem PthB.mu (h : PthB a b p q L sp n c l) (hs : decide ((n : Int) = 60) = false) (x : UInt8) : 60 - (l ++ [x]).length < 60 - l.length := by
  have := h.at60 hs; have := h.inv.len; simp; omega
theorem PthB.fin (h : PthB a b p q L sp n c l) (he : decide (p = q) = true) {m : List UInt8} (hm : pathL 60 a b = some m) : l = m := by
  have := h.inv.stop (of_decide_eq_true he)
  rw [hm] at this
  cases this
  rfl
theorem PthI.fin0 (h : PthI a b p q []) (he : decide (p = q) = true) {m : List UInt8} (hm : pathL 60 a b = some m) : m = [] := by
  have := h.stop (of_decide_eq_true he)
  rw [hm] at this
  cases this
  rfl
theorem PthI.nfin (h : PthI a b p q l) (he : decide (p = q) = true) (hm : pathL 60 a b = none) : False := by
  have := h.stop (of_decide_eq_true he)
  rw [hm] at this
  cases this
theorem PthB.nlim (h : PthB a b p q L sp n c l) (he : decide (p = q) = false) (hs : decide ((n : Int) = 60) = true) {m : List UInt8} (hm : pathL 60 a b = some m) : False := by
  have := h.inv.lim (of_decide_eq_false he) (by have := of_decide_eq_true hs; have := h.num; omega)
  rw [hm] at this
  cases this
end

end Go.Ev
