/-
  The rows: arguments that are made of whole numbers, opened.
  Conditions: none.
-/
import Derived.Test.YtlkbfpklhncfbaaGreatDoorEvFn
import Derived.WalkKit
import Derived.ProofKit
import Derived.OpenShut
import Derived.ShutString
import Derived.ChangeOld
import Derived.Below
set_option linter.unusedVariables false
set_option linter.unusedSimpArgs false
namespace Go.Ev
open Go.ChangeShapes Go.WideShapes Go.ChangeAt Go.RowKit

def IsNum (v : Value) : Prop := ∃ m, v = .int .i64 m ∧ (Lit.int .i64 m).wf = true

/-- A type whose cells are whole numbers of 64 bits, n of them. -/
def IntsTy (P : Program) (t : TypeId) (n : Nat) : Prop :=
  P.cellsOf t = n ∧ ∀ (H : Type) (enc : TypeId × Value → H) (w : World) (base : Nat) (spare : Nat → Bool) (held : Bool) (fuel : Nat) (cs : List Value) (x : DataW H × List MemPlace),
    DataW.trod enc P w base spare held fuel t cs = some x → cs.length = n ∧ ∀ v ∈ cs, IsNum v

theorem IntsTy.int {P : Program} {t : TypeId} (ht : P.underlying t = some (.int .i64)) (hc : P.cellsOf t = 1) : IntsTy P t 1 :=
  ⟨hc, fun H enc w base spare held fuel cs x h => by
    obtain ⟨n, rfl, _, hw⟩ := DataW.trod_int ht h
    exact ⟨rfl, fun v hv => by rw [List.mem_singleton] at hv; exact ⟨n, hv, hw⟩⟩⟩

theorem mem_chunk {k : Nat} (cs : List Value) {j : Nat} (hj : j < cs.length) (i : Nat) (h1 : i * k ≤ j) (h2 : j < i * k + k) : cs[j] ∈ (cs.drop (i * k)).take k := by
  have : ((cs.drop (i * k)).take k)[j - i * k]? = some cs[j] := by
    rw [List.getElem?_take_of_lt (by omega), List.getElem?_drop, show i * k + (j - i * k) = j by omega, List.getElem?_eq_getElem hj]
  exact List.mem_of_getElem? this

theorem IntsTy.arr {P : Program} {t e : TypeId} {n k : Nat} (ht : P.underlying t = some (.array n e)) (he : IntsTy P e k) (hc : P.cellsOf t = n * k) : IntsTy P t (n * k) :=
  ⟨hc, fun H enc w base spare held fuel cs x h => by
    obtain ⟨xs, m, _, _, hl, hxs, hi⟩ := DataW.trod_array ht h
    rw [hc] at hl
    refine ⟨hl, fun v hv => ?_⟩
    obtain ⟨j, hj, rfl⟩ := List.getElem_of_mem hv
    have hk : 0 < k := by
      rcases Nat.eq_zero_or_pos k with h0 | h0
      · subst h0; rw [Nat.mul_zero] at hl; omega
      · exact h0
    have hin : j / k < n := by rw [Nat.div_lt_iff_lt_mul hk]; omega
    have hch := hi (j / k) hin
    rw [he.1] at hch
    have hlt : j / k < xs.length := by omega
    rw [List.getElem?_eq_getElem hlt] at hch
    refine (he.2 _ _ _ _ _ _ _ _ _ hch).2 _ (mem_chunk cs hj (j / k) ?_ ?_)
    · exact Nat.div_mul_le_self j k
    · have := Nat.div_add_mod j k
      have := Nat.mod_lt j hk
      rw [Nat.mul_comm (j / k) k]; omega⟩

/-- A struct of two fields. -/
theorem IntsTy.str2 {P : Program} {t : TypeId} {f0 f1 : Field} {k0 k1 : Nat} (ht : P.underlying t = some (.struct #[f0, f1])) (h0 : IntsTy P f0.type k0) (h1 : IntsTy P f1.type k1)
    (ho0 : f0.offset = 0) (ho1 : f1.offset = k0) (hc : P.cellsOf t = k0 + k1) : IntsTy P t (k0 + k1) :=
  ⟨hc, fun H enc w base spare held fuel cs x h => by
    obtain ⟨xs, m, _, _, hl, hxs, hi⟩ := DataW.trod_struct ht h
    rw [hc] at hl
    refine ⟨hl, fun v hv => ?_⟩
    obtain ⟨j, hj, rfl⟩ := List.getElem_of_mem hv
    have hx2 : xs.length = 2 := by simpa using hxs
    by_cases hlt : j < k0
    · have hch := hi 0 f0 (by simp)
      rw [List.getElem?_eq_getElem (by omega), ho0, h0.1] at hch
      have := mem_chunk (k := k0) cs hj 0 (by omega) (by omega)
      rw [Nat.zero_mul] at this
      exact (h0.2 _ _ _ _ _ _ _ _ _ hch).2 _ this
    · have hch := hi 1 f1 (by simp)
      rw [List.getElem?_eq_getElem (by omega), ho1, h1.1] at hch
      refine (h1.2 _ _ _ _ _ _ _ _ _ hch).2 _ ?_
      have : ((cs.drop k0).take k1)[j - k0]? = some cs[j] := by
        rw [List.getElem?_take_of_lt (by omega), List.getElem?_drop, show k0 + (j - k0) = j by omega, List.getElem?_eq_getElem hj]
      exact List.mem_of_getElem? this⟩

theorem nums_of : ∀ (cs : List Value), (∀ v ∈ cs, IsNum v) → ∃ ns : List Int, ns.length = cs.length ∧ cs = ns.map (.int .i64) ∧ ∀ m ∈ ns, (Lit.int .i64 m).wf = true
  | [], _ => ⟨[], rfl, rfl, fun _ h => (by cases h)⟩
  | v :: cs, h => by
    obtain ⟨m, rfl, hm⟩ := h v (by simp)
    obtain ⟨ns, h1, rfl, h3⟩ := nums_of cs fun u hu => h u (List.mem_cons_of_mem _ hu)
    exact ⟨m :: ns, by rw [List.length_cons, List.length_cons, h1], rfl, fun z hz => (List.mem_cons.1 hz).elim (fun e => e ▸ hm) (h3 z)⟩

/-- An argument that is a row of whole numbers. -/
theorem open_nums {H : Type} {enc : TypeId × Value → H} {P : Program} {w : World} {base : Nat} {spare : Nat → Bool} {held : Bool} {r : Reach} {b0 : Nat} {t : TypeId} {n : Nat} {v : Value} {d : DataW H} {ps : List MemPlace}
    (ht : IntsTy P t n) (hagg : (match P.underlying t with | some (.struct _) => true | some (.array _ _) => true | _ => false) = true) (hval : Value.okWide P w r b0 t v) (hd : DataW.Trod enc P w base spare held t v d ps) :
    ∃ ns : List Int, ns.length = n ∧ v = .agg (ns.map (Value.int .i64)).toArray ∧ ∀ m ∈ ns, (Lit.int .i64 m).wf = true := by
  have : ∃ cs, v = .agg cs := by
    unfold Value.okWide at hval
    split at hval
    · exact hval.imp fun _ h => h.1
    · exact hval.imp fun _ h => h.1
    · rename_i hn1 hn2
      split at hagg
      · rename_i hq; exact (hn1 _ hq).elim
      · rename_i hq; exact (hn2 _ _ hq).elim
      · cases hagg
  obtain ⟨cs, rfl⟩ := this
  obtain ⟨fuel, hf⟩ := hd
  obtain ⟨h1, h2⟩ := ht.2 _ _ _ _ _ _ _ _ _ hf
  simp only [Value.cells] at h1 h2
  obtain ⟨ns, g1, g2, g3⟩ := nums_of cs.toList h2
  exact ⟨ns, by omega, by rw [← g2], g3⟩

theorem nums1 {ns : List Int} (h : ns.length = 1) : ∃ a, ns = [a] := match ns, h with | [a], _ => ⟨a, rfl⟩
theorem nums2 {ns : List Int} (h : ns.length = 2) : ∃ a b, ns = [a, b] := match ns, h with | [a, b], _ => ⟨a, b, rfl⟩
theorem nums3 {ns : List Int} (h : ns.length = 3) : ∃ a b c, ns = [a, b, c] := match ns, h with | [a, b, c], _ => ⟨a, b, c, rfl⟩
theorem nums4 {ns : List Int} (h : ns.length = 4) : ∃ a b c d, ns = [a, b, c, d] := match ns, h with | [a, b, c, d], _ => ⟨a, b, c, d, rfl⟩
theorem nums6 {ns : List Int} (h : ns.length = 6) : ∃ a b c d e f, ns = [a, b, c, d, e, f] := match ns, h with | [a, b, c, d, e, f], _ => ⟨a, b, c, d, e, f, rfl⟩
theorem nums9 {ns : List Int} (h : ns.length = 9) : ∃ a b c d e f g i j, ns = [a, b, c, d, e, f, g, i, j] := match ns, h with | [a, b, c, d, e, f, g, i, j], _ => ⟨a, b, c, d, e, f, g, i, j, rfl⟩
theorem nums12 {ns : List Int} (h : ns.length = 12) : ∃ a b c d e f g i j k l m, ns = [a, b, c, d, e, f, g, i, j, k, l, m] := match ns, h with | [a, b, c, d, e, f, g, i, j, k, l, m], _ => ⟨a, b, c, d, e, f, g, i, j, k, l, m, rfl⟩

end Go.Ev
