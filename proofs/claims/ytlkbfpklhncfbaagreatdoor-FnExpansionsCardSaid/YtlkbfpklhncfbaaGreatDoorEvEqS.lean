/-
  '==' on a struct of two arrays of two whole numbers compares their cells. Conditions: none.
-/
import Derived.Test.YtlkbfpklhncfbaaGreatDoorEvEq
import Derived.Laws.StructEq
set_option linter.unusedVariables false
set_option linter.unusedSimpArgs false
namespace Go.Ev
open Go.RowKit

section
variable {P : Program} {t e : TypeId}
theorem eq_strp (ht : P.underlying t = some (.struct (P.fieldsOf t))) (hp : P.stoodInHeld t = false)
    (hfl : (P.fieldsOf t).toList.map (fun x => (x.name == "_", x.type, x.offset)) = [(false, e, 0), (false, e, 2)])
    {f : TypeId} (he : P.underlying e = some (.array 2 f)) (hs : (P.info? e).map (·.size) = some 2)
    (hf : P.underlying f = some (.int .i64)) (hsf : (P.info? f).map (·.size) = some 1) :
    ∀ (d : Nat) (a b c x a' b' c' x' : Int) (w : World), (Op.equalIn (d + 3) t (.agg #[.int .i64 a, .int .i64 b, .int .i64 c, .int .i64 x]) (.agg #[.int .i64 a', .int .i64 b', .int .i64 c', .int .i64 x'])).run P w =
      .ok (decide (a = a') && (decide (b = b') && (decide (c = c') && (decide (x = x') && true)))) w := by
  intro d a b c x a' b' c' x' w
  have hag : (isAgg e).run P w = .ok true w := by simp [isAgg, run_underlying he]
  have heq := eq_two he hf hsf d
  rw [run_equalIn_struct w (d + 2) t _ _ ht hp]
  obtain ⟨f0, f1, hl, n0, t0, o0, n1, t1, o1⟩ : ∃ f0 f1, (P.fieldsOf t).toList = [f0, f1] ∧ (f0.name == "_") = false ∧ f0.type = e ∧ f0.offset = 0 ∧ (f1.name == "_") = false ∧ f1.type = e ∧ f1.offset = 2 := by
    match hm : (P.fieldsOf t).toList, hfl with
    | [], h => simp at h
    | [f0], h => simp at h
    | [f0, f1], h =>
      simp only [List.map_cons, List.map_nil, List.cons.injEq, Prod.mk.injEq, and_true] at h
      exact ⟨f0, f1, rfl, h.1.1, h.1.2.1, h.1.2.2, h.2.1, h.2.2.1, h.2.2.2⟩
    | f0 :: f1 :: f2 :: l, h => simp at h
  rw [hl]
  have m0 : f0.name ≠ "_" := by intro h; rw [h] at n0; simp at n0
  have m1 : f1.name ≠ "_" := by intro h; rw [h] at n1; simp at n1
  have e1 : ∀ (p q r s : Int), (#[Value.int .i64 p, .int .i64 q, .int .i64 r, .int .i64 s]).extract 0 2 = #[.int .i64 p, .int .i64 q] := fun p q r s => rfl
  have e2 : ∀ (p q r s : Int), (#[Value.int .i64 p, .int .i64 q, .int .i64 r, .int .i64 s]).extract 2 4 = #[.int .i64 r, .int .i64 s] := fun p q r s => rfl
  simp only [Op.eqFields, if_pos m0, if_pos m1, t0, t1, o0, o1]
  by_cases h1 : a = a' ∧ b = b'
  · obtain ⟨h1, h2⟩ := h1
    simp [part, hag, run_sizeOf_map hs, e1, e2, heq, h1, h2]
    by_cases h5 : c = c' <;> by_cases h6 : x = x' <;> simp [h5, h6]
  · have : (decide (a = a') && (decide (b = b') && true)) = false := by
      by_cases h5 : a = a'
      · have : ¬ b = b' := fun h => h1 ⟨h5, h⟩
        simp [this]
      · simp [h5]
    simp [part, hag, run_sizeOf_map hs, e1, e2, heq]
    by_cases h5 : a = a'
    · have : ¬ b = b' := fun h => h1 ⟨h5, h⟩
      simp [h5, this]
    · simp [h5]
theorem eq_str22 (hg : P.eqGuardType P.depth t = false) (ht : P.underlying t = some (.struct (P.fieldsOf t))) (hp : P.stoodInHeld t = false)
    (hfl : (P.fieldsOf t).toList.map (fun x => (x.name == "_", x.type, x.offset)) = [(false, e, 0), (false, e, 2)])
    {f : TypeId} (he : P.underlying e = some (.array 2 f)) (hs : (P.info? e).map (·.size) = some 2)
    (hf : P.underlying f = some (.int .i64)) (hsf : (P.info? f).map (·.size) = some 1) : EqProp P t 4 :=
  eqGoal hg fun cs ds w h1 h2 h3 h4 => by
    obtain ⟨a, b, c, d, rfl⟩ := intCells_four h1 h3
    obtain ⟨a', b', c', d', rfl⟩ := intCells_four h2 h4
    exact eq_strp ht hp hfl he hs hf hsf 9997 a b c d a' b' c' d' w
end
end Go.Ev
