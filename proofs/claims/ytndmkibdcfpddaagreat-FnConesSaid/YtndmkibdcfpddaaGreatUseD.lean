/-
  The use of a contract whose result holds no address: the result as it is told, memory with its cells told. Conditions: none.
-/
import Derived.Test.YtndmkibdcfpddaaGreatEvUse
set_option linter.unusedVariables false
namespace Go.Ev
open Go.RowKit

theorem mapK_eval {κ : List Nat} {cs cs' : List Value} {k : List Value → Prop} (h : cs.map (conc0 κ) = cs') (hk : k cs') : MapK κ cs k := ⟨by rw [h]; exact hk⟩

theorem CallOK.useD {P : Program} {f : Nat} {args0 args : List Value} {mem0 mem : Mem} {R k : Value → Mem → Prop} (h : CallOK P f args0 mem0 R) (ι : List Nat) (hargs : args0.map (conc ι) = args)
    (hok : allL (okB1 mem0.length) args0 = true) (hnd : nodupB ι = true) (hblk : blkV ι mem mem0.length ι mem0)
    (hk : ∀ v mem', R v mem' → kindsB (mem0.map (·.2)) (mem'.map (·.2)) = true ∧ ∃ v', (∀ κ, conc κ v = v') ∧ setK (iotaL ι mem.length (mem'.length - mem0.length)) mem ι mem' fun m1 =>
      newK (iotaL ι mem.length (mem'.length - mem0.length)) m1 (mem'.drop mem0.length) fun m2 => k v' m2) : CallOK P f args mem k := by
  refine h.useR ι hargs hok hnd hblk fun v mem' hR => ?_
  obtain ⟨h3, v', hv, h4⟩ := hk v mem' hR
  refine ⟨h3, ?_⟩
  simp only [forceV_eq, hv]
  exact h4

end Go.Ev
