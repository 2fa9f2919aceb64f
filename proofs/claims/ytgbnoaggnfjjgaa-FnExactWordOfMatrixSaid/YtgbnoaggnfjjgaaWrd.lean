/-
  Words of matrices: the plain law.
  Conditions: none.
-/
import Derived.Test.YtgbnoaggnfjjgaaPth
import Derived.Test.YtgbnoaggnfjjgaaCorn
set_option linter.unusedVariables false
set_option linter.unusedSimpArgs false
namespace Go.Ev

def isUnit4 (a b c d : Int) : Bool := decide (a = 1) && (decide (b = 0) && (decide (c = 0) && decide (d = 1)))

/-- The letters from a matrix down to the unit matrix, at most k of them. -/
def wordL : Nat → Int → Int → Int → Int → Option (List UInt8)
  | 0, a, b, c, d => if isUnit4 a b c d = true then some [] else none
  | k + 1, a, b, c, d => if isUnit4 a b c d = true then some [] else if a ≤ c ∧ b ≤ d then (wordL k a b (c - a) (d - b)).map (76 :: ·) else (wordL k (a - c) (b - d) c d).map (82 :: ·)

/-- Numbers of a matrix that are not less than 0, its determinant 1. -/
structure WMat (a b c d : Int) : Prop where
  a0 : 0 ≤ a
  b0 : 0 ≤ b
  c0 : 0 ≤ c
  d0 : 0 ≤ d
  a1 : a ≤ 1000000
  b1 : b ≤ 1000000
  c1 : c ≤ 1000000
  d1 : d ≤ 1000000
  det : a * d - b * c = 1

theorem WMat.rows {a b c d : Int} (h : WMat a b c d) (hu : isUnit4 a b c d = false) : (a ≤ c ∧ b ≤ d) ↔ ¬ (c ≤ a ∧ d ≤ b) := by
  obtain ⟨ha, hb, hc, hd, _, _, _, _, hdet⟩ := h
  constructor
  · rintro ⟨h1, h2⟩ ⟨h3, h4⟩
    have e1 : a = c := by omega
    have e2 : b = d := by omega
    subst e1 e2
    rw [Int.mul_comm] at hdet
    omega
  · intro hn
    rcases Int.lt_or_le c a with h1 | h1
    · have h2 : b < d := by omega
      exfalso
      have m1 : (c + 1) * (b + 1) ≤ a * d := Int.mul_le_mul (by omega) (by omega) (by omega) ha
      have m2 : (c + 1) * (b + 1) = c * b + c + b + 1 := by grind
      have m3 : b * c = c * b := Int.mul_comm b c
      have hc0 : c = 0 := by omega
      have hb0 : b = 0 := by omega
      subst hc0 hb0
      have hp : a * d = 1 := by omega
      have ha1 : a = 1 := by
        rcases Int.lt_or_le 1 a with h | h
        · have : 2 * 1 ≤ a * d := Int.mul_le_mul (by omega) (by omega) (by omega) ha
          omega
        · omega
      subst ha1
      have hd1 : d = 1 := by omega
      subst hd1
      exact absurd hu (by decide)
    · refine ⟨h1, ?_⟩
      rcases Int.lt_or_le d b with h2 | h2
      · exfalso
        have hac : a < c := by
          rcases Int.lt_or_le a c with h | h
          · exact h
          · omega
        have m1 : a * d ≤ c * b := Int.mul_le_mul (by omega) (by omega) hd hc
        have m3 : b * c = c * b := Int.mul_comm b c
        omega
      · exact h2

theorem WMat.down {a b c d : Int} (h : WMat a b c d) (h1 : a ≤ c) (h2 : b ≤ d) : WMat a b (c - a) (d - b) := by
  obtain ⟨ha, hb, hc, hd, ha1, hb1, hc1, hd1, hdet⟩ := h
  exact ⟨ha, hb, by omega, by omega, ha1, hb1, by omega, by omega, by grind⟩
theorem WMat.up {a b c d : Int} (h : WMat a b c d) (h1 : c ≤ a) (h2 : d ≤ b) : WMat (a - c) (b - d) c d := by
  obtain ⟨ha, hb, hc, hd, ha1, hb1, hc1, hd1, hdet⟩ := h
  exact ⟨by omega, by omega, hc, hd, by omega, by omega, hc1, hd1, by grind⟩

/-- w, x, y, z: the matrix that came in; a, b, c, d: what is left; l: the letters so far. -/
structure WrdI (w x y z a b c d : Int) (l : List UInt8) : Prop where
  mat : WMat a b c d
  len : l.length ≤ 200
  eq : (wordL (200 - l.length) a b c d).map (l ++ ·) = wordL 200 w x y z
section
variable {w x y z a b c d : Int} {l : List UInt8}
theorem WrdI.start (h : WMat w x y z) : WrdI w x y z w x y z [] := ⟨h, by simp, by simp⟩
theorem WrdI.stop (h : WrdI w x y z a b c d l) (he : isUnit4 a b c d = true) : wordL 200 w x y z = some l := by
  rw [← h.eq]
  cases 200 - l.length <;> simp [wordL, he]
theorem WrdI.lim (h : WrdI w x y z a b c d l) (he : isUnit4 a b c d = false) (hl : l.length = 200) : wordL 200 w x y z = none := by
  rw [← h.eq, hl]
  simp [wordL, he]
theorem WrdI.left (h : WrdI w x y z a b c d l) (hl : ¬ l.length = 200) (he : isUnit4 a b c d = false) (h1 : a ≤ c) (h2 : b ≤ d) : WrdI w x y z a b (w64 (c - a)) (w64 (d - b)) (l ++ [76]) := by
  obtain ⟨hm, h5, h6⟩ := h
  have hm' := hm.down h1 h2
  rw [w64_in (n := c - a) (by have := hm'.c0; omega) (by have := hm'.c1; omega), w64_in (n := d - b) (by have := hm'.d0; omega) (by have := hm'.d1; omega)]
  refine ⟨hm', by simp; omega, ?_⟩
  rw [← h6, show 200 - l.length = (200 - (l ++ [76]).length) + 1 by simp; omega, wordL, if_neg (by rw [he]; decide), if_pos ⟨h1, h2⟩, Option.map_map]
  congr 1
  funext x
  simp
theorem WrdI.right (h : WrdI w x y z a b c d l) (hl : ¬ l.length = 200) (he : isUnit4 a b c d = false) (hn : ¬ (a ≤ c ∧ b ≤ d)) : WrdI w x y z (w64 (a - c)) (w64 (b - d)) c d (l ++ [82]) := by
  obtain ⟨hm, h5, h6⟩ := h
  have hr : c ≤ a ∧ d ≤ b := Classical.byContradiction fun hh => hn ((hm.rows he).2 hh)
  have hm' := hm.up hr.1 hr.2
  rw [w64_in (n := a - c) (by have := hm'.a0; omega) (by have := hm'.a1; omega), w64_in (n := b - d) (by have := hm'.b0; omega) (by have := hm'.b1; omega)]
  refine ⟨hm', by simp; omega, ?_⟩
  rw [← h6, show 200 - l.length = (200 - (l ++ [82]).length) + 1 by simp; omega, wordL, if_neg (by rw [he]; decide), if_neg hn, Option.map_map]
  congr 1
  funext x
  simp
end

/-- The state with the string. -/
structure WrdS (w x y z a b c d : Int) (s : ByteArray) (l : List UInt8) : Prop where
  inv : WrdI w x y z a b c d l
  str : s = ⟨l.toArray⟩
section
variable {w x y z a b c d : Int} {l : List UInt8} {s : ByteArray}
theorem WrdS.size (h : WrdS w x y z a b c d s l) : s.size = l.length := by rw [h.str, str_size]
theorem WrdS.start (h : WMat w x y z) : WrdS w x y z w x y z ⟨#[]⟩ [] := ⟨.start h, rfl⟩
theorem WrdS.atM (h : WrdS w x y z a b c d s l) (hs : decide ((s.size : Int) = 200) = false) : ¬ l.length = 200 := fun hl => of_decide_eq_false hs (by rw [h.size]; omega)
/-- The reference asks for R first. -/
theorem WrdS.right (h : WrdS w x y z a b c d s l) (hs : decide ((s.size : Int) = 200) = false) (he : isUnit4 a b c d = false) (h1 : decide (a ≥ c) = true) (h2 : decide (b ≥ d) = true) : WrdS w x y z (w64 (a - c)) (w64 (b - d)) c d (s ++ ⟨#[82]⟩) (l ++ [82]) :=
  ⟨h.inv.right (h.atM hs) he (fun hh => (h.inv.mat.rows he).1 hh ⟨of_decide_eq_true h1, of_decide_eq_true h2⟩), by rw [h.str]; exact str_add l [82]⟩
theorem WrdS.left' (h : WrdS w x y z a b c d s l) (hs : decide ((s.size : Int) = 200) = false) (he : isUnit4 a b c d = false) (hn : ¬ (c ≤ a ∧ d ≤ b)) : WrdS w x y z a b (w64 (c - a)) (w64 (d - b)) (s ++ ⟨#[76]⟩) (l ++ [76]) := by
  have := (h.inv.mat.rows he).2 hn
  exact ⟨h.inv.left (h.atM hs) he this.1 this.2, by rw [h.str]; exact str_add l [76]⟩
theorem WrdS.left1 (h : WrdS w x y z a b c d s l) (hs : decide ((s.size : Int) = 200) = false) (he : isUnit4 a b c d = false) (h1 : decide (a ≥ c) = false) : WrdS w x y z a b (w64 (c - a)) (w64 (d - b)) (s ++ ⟨#[76]⟩) (l ++ [76]) :=
  h.left' hs he fun hh => of_decide_eq_false h1 hh.1
theorem WrdS.left2 (h : WrdS w x y z a b c d s l) (hs : decide ((s.size : Int) = 200) = false) (he : isUnit4 a b c d = false) (h1 : decide (b ≥ d) = false) : WrdS w x y z a b (w64 (c - a)) (w64 (d - b)) (s ++ ⟨#[76]⟩) (l ++ [76]) :=
  h.left' hs he fun hh => of_decide_eq_false h1 hh.2
theorem WrdS.mu (h : WrdS w x y z a b c d s l) (hs : decide ((s.size : Int) = 200) = false) (x : UInt8) : 200 - (l ++ [x]).length < 200 - l.length := by
  have := h.atM hs; have := h.inv.len; simp; omega
theorem WrdS.fin (h : WrdS w x y z a b c d s l) (he : isUnit4 a b c d = true) {m : List UInt8} (hm : wordL 200 w x y z = some m) : s = ⟨m.toArray⟩ := by
  have := h.inv.stop he
  rw [hm] at this
  cases this
  exact h.str
theorem WrdS.nlim (h : WrdS w x y z a b c d s l) (he : isUnit4 a b c d = false) (hs : decide ((s.size : Int) = 200) = true) {m : List UInt8} (hm : wordL 200 w x y z = some m) : False := by
  have := h.inv.lim he (by have := of_decide_eq_true hs; rw [h.size] at this; omega)
  rw [hm] at this
  cases this
end
theorem WrdI.nfin {w x y z a b c d : Int} {l : List UInt8} (h : WrdI w x y z a b c d l) (he : isUnit4 a b c d = true) (hm : wordL 200 w x y z = none) : False := by
  have := h.stop he
  rw [hm] at this
  cases this

/-- The state with the builder's row. -/
structure WrdB (w x y z a b c d : Int) (L sp : List Value) (n k : Nat) (l : List UInt8) : Prop where
  inv : WrdI w x y z a b c d l
  row : Row L sp n k 1
  cells : L = Lib.byteCells l
  ne : l ≠ []
section
variable {w x y z a b c d : Int} {l : List UInt8} {L sp : List Value} {n k : Nat}
theorem WrdB.num (h : WrdB w x y z a b c d L sp n k l) : l.length = n := by
  have h1 := h.row.len
  rw [h.cells, Lib.byteCells_length] at h1; omega
theorem WrdB.atM (h : WrdB w x y z a b c d L sp n k l) (hs : decide ((n : Int) = 200) = false) : ¬ l.length = 200 := fun hl => of_decide_eq_false hs (by have := h.num; omega)
theorem WrdB.left (h : WrdB w x y z a b c d L sp n k l) (hs : decide ((n : Int) = 200) = false) (he : isUnit4 a b c d = false) (h1 : decide (c ≥ a) = true) (h2 : decide (d ≥ b) = true) {sp' : List Value} {n' k' : Nat} (hr : Row (L ++ Lib.strCells ⟨#[76]⟩) sp' n' k' 1) :
    WrdB w x y z a b (w64 (c - a)) (w64 (d - b)) (L ++ Lib.strCells ⟨#[76]⟩) sp' n' k' (l ++ [76]) :=
  ⟨h.inv.left (h.atM hs) he (of_decide_eq_true h1) (of_decide_eq_true h2), hr, by rw [h.cells, Lib.byteCells_append]; rfl, by simp⟩
theorem WrdB.right' (h : WrdB w x y z a b c d L sp n k l) (hs : decide ((n : Int) = 200) = false) (he : isUnit4 a b c d = false) (hn : ¬ (a ≤ c ∧ b ≤ d)) {sp' : List Value} {n' k' : Nat} (hr : Row (L ++ Lib.strCells ⟨#[82]⟩) sp' n' k' 1) :
    WrdB w x y z (w64 (a - c)) (w64 (b - d)) c d (L ++ Lib.strCells ⟨#[82]⟩) sp' n' k' (l ++ [82]) :=
  ⟨h.inv.right (h.atM hs) he hn, hr, by rw [h.cells, Lib.byteCells_append]; rfl, by simp⟩
theorem no1 {a b c d : Int} (h1 : decide (c ≥ a) = false) : ¬ (a ≤ c ∧ b ≤ d) := fun hh => of_decide_eq_false h1 hh.1
theorem no2 {a b c d : Int} (h1 : decide (d ≥ b) = false) : ¬ (a ≤ c ∧ b ≤ d) := fun hh => of_decide_eq_false h1 hh.2
theorem WrdB.left0 (h : WrdI w x y z a b c d []) (he : isUnit4 a b c d = false) (h1 : decide (c ≥ a) = true) (h2 : decide (d ≥ b) = true) {sp' : List Value} {n' k' : Nat} (hr : Row (Lib.strCells ⟨#[76]⟩) sp' n' k' 1) :
    WrdB w x y z a b (w64 (c - a)) (w64 (d - b)) (Lib.strCells ⟨#[76]⟩) sp' n' k' [76] :=
  ⟨h.left (by simp) he (of_decide_eq_true h1) (of_decide_eq_true h2), hr, rfl, by simp⟩
theorem WrdB.right0 (h : WrdI w x y z a b c d []) (he : isUnit4 a b c d = false) (hn : ¬ (a ≤ c ∧ b ≤ d)) {sp' : List Value} {n' k' : Nat} (hr : Row (Lib.strCells ⟨#[82]⟩) sp' n' k' 1) :
    WrdB w x y z (w64 (a - c)) (w64 (b - d)) c d (Lib.strCells ⟨#[82]⟩) sp' n' k' [82] :=
  ⟨h.right (by simp) he hn, hr, rfl, by simp⟩
theorem WrdB.mu (h : WrdB w x y z a b c d L sp n k l) (hs : decide ((n : Int) = 200) = false) (x : UInt8) : 200 - (l ++ [x]).length < 200 - l.length := by
  have := h.atM hs; have := h.inv.len; simp; omega
theorem WrdB.fin (h : WrdB w x y z a b c d L sp n k l) (he : isUnit4 a b c d = true) {m : List UInt8} (hm : wordL 200 w x y z = some m) : l = m := by
  have := h.inv.stop he
  rw [hm] at this
  cases this
  rfl
theorem WrdI.fin0 (h : WrdI w x y z a b c d []) (he : isUnit4 a b c d = true) {m : List UInt8} (hm : wordL 200 w x y z = some m) : m = [] := by
  have := h.stop he
  rw [hm] at this
  cases this
  rfl
theorem WrdB.nlim (h : WrdB w x y z a b c d L sp n k l) (he : isUnit4 a b c d = false) (hs : decide ((n : Int) = 200) = true) {m : List UInt8} (hm : wordL 200 w x y z = some m) : False := by
  have := h.inv.lim he (by have := of_decide_eq_true hs; have := h.num; omega)
  rw [hm] at this
  cases this
end

theorem WMat.of {a b c d : Int} (h1 : isPtF a b = true) (h2 : isPtF c d = true) (hd : detF a b c d = 1) (ha : 0 ≤ a) (hb : 0 ≤ b) (hc : 0 ≤ c) (hd0 : 0 ≤ d) : WMat a b c d := by
  have hdt := (det_pt h1 h2).1
  rw [isPtF_iff] at h1 h2
  exact ⟨ha, hb, hc, hd0, by omega, by omega, by omega, by omega, by omega⟩

theorem min4_ok {w x y z : Int} (h : WMat w x y z) : decide (mini (mini (mini w x) y) z < 0) = false := by
  obtain ⟨h1, h2, h3, h4, _⟩ := h
  refine decide_eq_false ?_
  unfold mini
  split <;> split <;> split <;> omega
theorem min4_no {w x y z : Int} (h : ¬ (0 ≤ w ∧ 0 ≤ x ∧ 0 ≤ y ∧ 0 ≤ z)) : decide (mini (mini (mini w x) y) z < 0) = true := by
  refine decide_eq_true ?_
  unfold mini
  split <;> split <;> split <;> omega

end Go.Ev
