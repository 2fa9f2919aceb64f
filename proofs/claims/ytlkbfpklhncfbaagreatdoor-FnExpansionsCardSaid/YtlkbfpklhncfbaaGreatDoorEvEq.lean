/-
  The evaluator, part 9: '==' on arrays of whole numbers compares their cells.
  Conditions: none.
-/
import Derived.Test.YtlkbfpklhncfbaaGreatDoorEvFn
set_option linter.unusedVariables false
set_option linter.unusedSimpArgs false
namespace Go.Ev
open Go.RowKit

theorem intCells_cons {v : Value} {cs : List Value} (h : intCells (v :: cs) = true) : ∃ a, v = .int .i64 a ∧ intCells cs = true := by
  unfold intCells at h
  split at h
  · contradiction
  · rename_i n l heq
    cases heq
    exact ⟨n, rfl, h⟩
  · cases h

theorem intCells_two {cs : List Value} (h : intCells cs = true) (hl : cs.length = 2) : ∃ a b, cs = [.int .i64 a, .int .i64 b] := by
  match cs, hl with
  | [x, y], _ =>
    obtain ⟨a, rfl, h1⟩ := intCells_cons h
    obtain ⟨b, rfl, h2⟩ := intCells_cons h1
    exact ⟨a, b, rfl⟩

theorem intCells_three {cs : List Value} (h : intCells cs = true) (hl : cs.length = 3) : ∃ a b c, cs = [.int .i64 a, .int .i64 b, .int .i64 c] := by
  match cs, hl with
  | [x, y, z], _ =>
    obtain ⟨a, rfl, h1⟩ := intCells_cons h
    obtain ⟨b, c, e⟩ := intCells_two h1 rfl
    cases e
    exact ⟨a, b, c, rfl⟩

theorem intCells_four {cs : List Value} (h : intCells cs = true) (hl : cs.length = 4) : ∃ a b c d, cs = [.int .i64 a, .int .i64 b, .int .i64 c, .int .i64 d] := by
  match cs, hl with
  | [x, y, z, u], _ =>
    obtain ⟨a, rfl, h1⟩ := intCells_cons h
    obtain ⟨b, c, d, e⟩ := intCells_three h1 rfl
    cases e
    exact ⟨a, b, c, d, rfl⟩

section
variable {P : Program} {t e : TypeId}

theorem eqGuard_plain (h : P.eqGuardType P.depth t = false) (op : BinOp) (x y : Operand) (cs ds : Array Value) (w : World) : (eqGuard op t x y (.agg cs) (.agg ds)).run P w = .ok () w := by
  unfold eqGuard
  cases op <;> simp [h]

theorem eqGoal {t : TypeId} {size : Nat} (hg : P.eqGuardType P.depth t = false)
    (h : ∀ (cs ds : List Value) (w : World), intCells cs = true → intCells ds = true → cs.length = size → ds.length = size → (Op.equal t (.agg cs.toArray) (.agg ds.toArray)).run P w = .ok (eqCells cs ds) w) :
    ∀ (cs ds : List Value) (w : World), intCells cs = true → intCells ds = true → cs.length = size → ds.length = size →
    ∀ op, (op = BinOp.eql ∨ op = BinOp.neq) → ∀ x y : Operand,
      (do eqGuard op t x y (.agg cs.toArray) (.agg ds.toArray); binOp op t (.agg cs.toArray) (.agg ds.toArray) : Sem Value).run P w =
        .ok (.bool (if op = BinOp.eql then eqCells cs ds else !eqCells cs ds)) w := by
  intro cs ds w h1 h2 h3 h4 op hop x y
  have he := h cs ds w h1 h2 h3 h4
  rcases hop with rfl | rfl
  · simp only [Sem.run_bind, eqGuard_plain hg, Result.andThen_ok, binOp, he, Sem.run_pure, if_true]
  · simp only [Sem.run_bind, eqGuard_plain hg, Result.andThen_ok, binOp, he, Sem.run_pure, reduceCtorEq, if_false]

theorem eq_two (ht : P.underlying t = some (.array 2 e)) (he : P.underlying e = some (.int .i64)) (hs : (P.info? e).map (·.size) = some 1) :
    ∀ (d : Nat) (a b a' b' : Int) (w : World), (Op.equalIn (d + 2) t (.agg #[.int .i64 a, .int .i64 b]) (.agg #[.int .i64 a', .int .i64 b'])).run P w = .ok (decide (a = a') && (decide (b = b') && true)) w := by
  intro d a b a' b' w
  have hag : (isAgg e).run P w = .ok false w := by simp [isAgg, run_underlying he]
  have heq : ∀ x y : Int, (Op.equalIn (d + 1) e (.int .i64 x) (.int .i64 y)).run P w = .ok (x == y) w := fun x y => run_equalIn_int w d e .i64 .i64 x y he
  rw [Op.equalIn]
  simp only [Sem.run_bind, run_underlying ht, Result.andThen_ok, run_sizeOf_map hs]
  by_cases h1 : a = a'
  · by_cases h2 : b = b'
    · simp [Std.Legacy.Range.forIn_eq_forIn_range', List.range'_succ, part, hag, heq, h1, h2]
    · simp [Std.Legacy.Range.forIn_eq_forIn_range', List.range'_succ, part, hag, heq, h1, h2]
  · simp [Std.Legacy.Range.forIn_eq_forIn_range', List.range'_succ, part, hag, heq, h1]

theorem eq_three (ht : P.underlying t = some (.array 3 e)) (he : P.underlying e = some (.int .i64)) (hs : (P.info? e).map (·.size) = some 1) :
    ∀ (d : Nat) (a b c a' b' c' : Int) (w : World), (Op.equalIn (d + 2) t (.agg #[.int .i64 a, .int .i64 b, .int .i64 c]) (.agg #[.int .i64 a', .int .i64 b', .int .i64 c'])).run P w =
      .ok (decide (a = a') && (decide (b = b') && (decide (c = c') && true))) w := by
  intro d a b c a' b' c' w
  have hag : (isAgg e).run P w = .ok false w := by simp [isAgg, run_underlying he]
  have heq : ∀ x y : Int, (Op.equalIn (d + 1) e (.int .i64 x) (.int .i64 y)).run P w = .ok (x == y) w := fun x y => run_equalIn_int w d e .i64 .i64 x y he
  rw [Op.equalIn]
  simp only [Sem.run_bind, run_underlying ht, Result.andThen_ok, run_sizeOf_map hs]
  by_cases h1 : a = a'
  · by_cases h2 : b = b'
    · by_cases h3 : c = c'
      · simp [Std.Legacy.Range.forIn_eq_forIn_range', List.range'_succ, part, hag, heq, h1, h2, h3]
      · simp [Std.Legacy.Range.forIn_eq_forIn_range', List.range'_succ, part, hag, heq, h1, h2, h3]
    · simp [Std.Legacy.Range.forIn_eq_forIn_range', List.range'_succ, part, hag, heq, h1, h2]
  · simp [Std.Legacy.Range.forIn_eq_forIn_range', List.range'_succ, part, hag, heq, h1]

theorem eq_square (ht : P.underlying t = some (.array 2 e)) {f : TypeId} (he : P.underlying e = some (.array 2 f)) (hs : (P.info? e).map (·.size) = some 2)
    (hf : P.underlying f = some (.int .i64)) (hsf : (P.info? f).map (·.size) = some 1) :
    ∀ (d : Nat) (a b c x a' b' c' x' : Int) (w : World), (Op.equalIn (d + 3) t (.agg #[.int .i64 a, .int .i64 b, .int .i64 c, .int .i64 x]) (.agg #[.int .i64 a', .int .i64 b', .int .i64 c', .int .i64 x'])).run P w =
      .ok (decide (a = a') && (decide (b = b') && (decide (c = c') && (decide (x = x') && true)))) w := by
  intro d a b c x a' b' c' x' w
  have hag : (isAgg e).run P w = .ok true w := by simp [isAgg, run_underlying he]
  have heq := eq_two he hf hsf d
  rw [Op.equalIn]
  simp only [Sem.run_bind, run_underlying ht, Result.andThen_ok, run_sizeOf_map hs]
  have e1 : ∀ (p q r s : Int), (#[Value.int .i64 p, .int .i64 q, .int .i64 r, .int .i64 s]).extract 0 2 = #[.int .i64 p, .int .i64 q] := fun p q r s => rfl
  have e2 : ∀ (p q r s : Int), (#[Value.int .i64 p, .int .i64 q, .int .i64 r, .int .i64 s]).extract 2 4 = #[.int .i64 r, .int .i64 s] := fun p q r s => rfl
  by_cases h1 : a = a' ∧ b = b'
  · obtain ⟨h1, h2⟩ := h1
    by_cases h3 : c = c' ∧ x = x'
    · obtain ⟨h3, h4⟩ := h3
      simp [Std.Legacy.Range.forIn_eq_forIn_range', List.range'_succ, part, hag, run_sizeOf_map hs, e1, e2, heq, h1, h2, h3, h4]
    · simp [Std.Legacy.Range.forIn_eq_forIn_range', List.range'_succ, part, hag, run_sizeOf_map hs, e1, e2, heq, h1, h2]
      by_cases h5 : c = c'
      · have : ¬ x = x' := fun h => h3 ⟨h5, h⟩
        simp [h5, this]
      · simp [h5]
  · simp [Std.Legacy.Range.forIn_eq_forIn_range', List.range'_succ, part, hag, run_sizeOf_map hs, e1, e2, heq]
    by_cases h5 : a = a'
    · have : ¬ b = b' := fun h => h1 ⟨h5, h⟩
      simp [h5, this]
    · simp [h5]

abbrev EqProp (P : Program) (t size : Nat) : Prop := ∀ (cs ds : List Value) (w : World), intCells cs = true → intCells ds = true → cs.length = size → ds.length = size →
    ∀ op, (op = BinOp.eql ∨ op = BinOp.neq) → ∀ x y : Operand,
      (do eqGuard op t x y (.agg cs.toArray) (.agg ds.toArray); binOp op t (.agg cs.toArray) (.agg ds.toArray) : Sem Value).run P w =
        .ok (.bool (if op = BinOp.eql then eqCells cs ds else !eqCells cs ds)) w

theorem eq_arr2 (hg : P.eqGuardType P.depth t = false) (ht : P.underlying t = some (.array 2 e)) (he : P.underlying e = some (.int .i64)) (hs : (P.info? e).map (·.size) = some 1) : EqProp P t 2 :=
  eqGoal hg fun cs ds w h1 h2 h3 h4 => by
    obtain ⟨a, b, rfl⟩ := intCells_two h1 h3
    obtain ⟨a', b', rfl⟩ := intCells_two h2 h4
    exact eq_two ht he hs 9998 a b a' b' w

theorem eq_arr3 (hg : P.eqGuardType P.depth t = false) (ht : P.underlying t = some (.array 3 e)) (he : P.underlying e = some (.int .i64)) (hs : (P.info? e).map (·.size) = some 1) : EqProp P t 3 :=
  eqGoal hg fun cs ds w h1 h2 h3 h4 => by
    obtain ⟨a, b, c, rfl⟩ := intCells_three h1 h3
    obtain ⟨a', b', c', rfl⟩ := intCells_three h2 h4
    exact eq_three ht he hs 9998 a b c a' b' c' w

theorem eq_arr22 (hg : P.eqGuardType P.depth t = false) (ht : P.underlying t = some (.array 2 e)) {f : TypeId} (he : P.underlying e = some (.array 2 f)) (hs : (P.info? e).map (·.size) = some 2)
    (hf : P.underlying f = some (.int .i64)) (hsf : (P.info? f).map (·.size) = some 1) : EqProp P t 4 :=
  eqGoal hg fun cs ds w h1 h2 h3 h4 => by
    obtain ⟨a, b, c, d, rfl⟩ := intCells_four h1 h3
    obtain ⟨a', b', c', d', rfl⟩ := intCells_four h2 h4
    exact eq_square ht he hs hf hsf 9997 a b c d a' b' c' d' w

end
end Go.Ev
