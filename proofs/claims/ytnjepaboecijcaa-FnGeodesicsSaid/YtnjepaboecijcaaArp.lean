/-
  The rows: arguments that are slices of points, opened.
  Conditions: none.
-/
import Derived.Test.YtnjepaboecijcaaArg
set_option linter.unusedVariables false
set_option linter.unusedSimpArgs false
namespace Go.Ev
open Go.ChangeShapes Go.WideShapes Go.ChangeAt Go.RowKit

theorem list_of {Q : Nat → Int × Int → Prop} : ∀ (n : Nat), (∀ i, i < n → ∃ p, Q i p) → ∃ ps : List (Int × Int), ps.length = n ∧ ∀ i, i < n → Q i (ps.getD i (0, 0))
  | 0, _ => ⟨[], rfl, fun i hi => by omega⟩
  | n + 1, h => by
    obtain ⟨ps, h1, h2⟩ := list_of n fun i hi => h i (by omega)
    obtain ⟨p, hp⟩ := h n (by omega)
    refine ⟨ps ++ [p], by simp [h1], fun i hi => ?_⟩
    rcases Nat.lt_or_ge i n with h3 | h3
    · have := h2 i h3
      rwa [show (ps ++ [p]).getD i (0, 0) = ps.getD i (0, 0) by simp only [List.getD, List.getElem?_append_left (show i < ps.length by omega)]]
    · have : i = n := by omega
      subst this
      rw [show (ps ++ [p]).getD i (0, 0) = p by simp [List.getD, ← h1]]
      exact hp

theorem pl_get : ∀ (ps : List (Int × Int)) (j : Nat), j < ps.length → (pl ps)[j * 2]? = some (iv (ps.getD j (0, 0)).1) ∧ (pl ps)[j * 2 + 1]? = some (iv (ps.getD j (0, 0)).2)
  | [], j, h => by simp at h
  | p :: ps, 0, h => ⟨rfl, rfl⟩
  | p :: ps, j + 1, h => by
    have ih := pl_get ps j (by simpa using h)
    rw [show (j + 1) * 2 = j * 2 + 1 + 1 by omega, pl_cons]
    simpa using ih

theorem open_slice_pts {H : Type} {enc : TypeId × Value → H} {P : Program} {W : World} {base b0 : Nat} {held : Bool} {r : Reach} {t e : TypeId} {v : Value} {d : DataW H} {ps : List MemPlace}
    (ht : P.underlying t = some (.slice e)) (he : IntsTy P e 2) (hval : Value.okWide P W r b0 t v) (hd : DataW.Trod enc P W base (fun _ => true) held t v d ps) :
    v = .slice none 0 0 ∨ ∃ (ab ao len cap : Nat) (qs : List (Int × Int)), v = .slice (some ⟨ab, ao, none⟩) len cap ∧ len ≤ cap ∧ cap ≤ maxLen ∧ qs.length = cap ∧ ArgAt W ab ao (pl qs) := by
  obtain ⟨a1, len, cap, rfl⟩ := okWide_slice ht hval
  obtain ⟨fuel, hf⟩ := hd
  rcases DataW.trod_slice ht hf with ⟨hcs, _⟩ | ⟨a, len', cap', elems, rest, n, _, hcs, _, hb, hl, hm, hlen, hel, hsp, _⟩
  · simp [Value.cells] at hcs
    obtain ⟨rfl, rfl, rfl⟩ := hcs
    exact .inl rfl
  · simp [Value.cells] at hcs
    obtain ⟨rfl, rfl, rfl⟩ := hcs
    obtain ⟨ab, ao, spot⟩ := a
    simp only [Value.okWide, ht, Cell.okWide, Cell.ok, World.has] at hval
    obtain ⟨_, _, _, hspot, row, cells, hsh, _⟩ := hval
    subst hspot
    obtain ⟨hrl, hr⟩ := hsp rfl
    have each : ∀ i, i < cap → ∃ p : Int × Int, W.cell? ⟨ab, ao + i * 2, none⟩ = some (iv p.1) ∧ W.cell? ⟨ab, ao + (i * 2 + 1), none⟩ = some (iv p.2) := by
      intro i hi
      have hy : ∃ y, (W.cells? base ((⟨ab, ao, none⟩ : Addr).add (i * 2)) 2).bind (DataW.trod enc P W base (fun _ => true) held n e) = some y := by
        by_cases hil : i < len
        · have := hel i hil
          rw [he.1] at this
          exact ⟨_, this.trans (List.getElem?_eq_getElem (by omega))⟩
        · have := hr (i - len) (by omega)
          rw [he.1, show len + (i - len) = i by omega] at this
          exact ⟨_, this.trans (List.getElem?_eq_getElem (by omega))⟩
      obtain ⟨y, hy⟩ := hy
      rw [Option.bind_eq_some_iff] at hy
      obtain ⟨cs, hcs, hy⟩ := hy
      obtain ⟨g1, g2⟩ := he.2 _ _ _ _ _ _ _ _ _ hy
      obtain ⟨_, _, hcell⟩ := World.cells?_some hcs
      obtain ⟨ns, n1, rfl, _⟩ := nums_of cs g2
      obtain ⟨x, y', rfl⟩ := nums2 (n1.trans g1)
      refine ⟨(x, y'), ?_, ?_⟩
      · have := hcell 0 (by omega)
        simpa [Addr.add_lit] using this
      · have := hcell 1 (by omega)
        simpa [Addr.add_lit, Nat.add_assoc] using this
    obtain ⟨qs, q1, q2⟩ := list_of cap each
    refine .inr ⟨ab, ao, len, cap, qs, rfl, hl, hm, q1, ⟨?_, fun i u hu => ?_⟩⟩
    · rcases Nat.lt_or_ge ab W.heap.size with h | h
      · exact h
      · simp [World.shape?, h] at hsh
    · have hi : i < (pl qs).length := getElem?_len hu
      rw [pl_len] at hi
      have hq := q2 (i / 2) (by omega)
      have hg := pl_get qs (i / 2) (by omega)
      rcases Nat.mod_two_eq_zero_or_one i with h0 | h0
      · have e : i = i / 2 * 2 := by omega
        rw [e] at hu ⊢
        rw [hg.1] at hu
        cases hu
        exact hq.1
      · have e : i = i / 2 * 2 + 1 := by omega
        rw [e] at hu ⊢
        rw [hg.2] at hu
        cases hu
        exact hq.2

end Go.Ev
