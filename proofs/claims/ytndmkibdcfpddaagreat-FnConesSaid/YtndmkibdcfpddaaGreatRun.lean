/-
  The rows of laws over drawn bytes: a contract without memory, used at the row. Conditions: none.
-/
import Derived.Test.YtndmkibdcfpddaaGreatArg
set_option linter.unusedVariables false
namespace Go.Ev
open Go.RowKit

theorem run_nil {P : Program} {f : Nat} {W : World} {R : Value → Mem → Prop} (h : CallOK P f [.slice none 0 0] [] R) (hR : ∀ v m, R v m → v = .bool true) :
    Calls P f #[.slice none 0 0] W (fun e w' => e = .returned (.bool true) ∧ Below W.heap.size W w') := by
  have hm : MemAt ⟨W, []⟩ [] [] W := by
    refine ⟨rfl, rfl, rfl, Nat.le_refl _, rfl, fun b hb => (by cases hb), fun i j cs t hi => ?_, fun _ _ _ => rfl, fun k cs t hk => ?_, fun k cs t hk => ?_, fun k cs hk => ?_⟩
    · cases i <;> cases hi
    · cases k <;> cases hk
    · cases k <;> cases hk
    · cases k <;> cases hk
  have := h.run ⟨W, []⟩ [] W hm (fun v hv => by rw [List.mem_singleton] at hv; subst hv; trivial)
  refine this.mono fun e w' ⟨v, mem', σ, h1, h2, h3, h4⟩ => ?_
  have := hR _ _ h4
  subst this
  exact ⟨h1, h3.toBelow⟩

end Go.Ev
