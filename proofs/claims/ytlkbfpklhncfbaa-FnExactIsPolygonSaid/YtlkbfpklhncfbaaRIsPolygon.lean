/-
  The law 'FnExactIsPolygon' returns true at every input, and leaves its arguments as they were.
  Conditions: none.
-/
import Derived.Test.YtlkbfpklhncfbaaEvRow
import Derived.Test.YtlkbfpklhncfbaaArp
import Derived.Test.YtlkbfpklhncfbaaK64
import Derived.Test.YtlkbfpklhncfbaaRows
set_option linter.unusedVariables false
set_option linter.unusedSimpArgs false
namespace Go.Proofs.Ytlkbfpklhncfbaa.fnExactIsPolygonDone
open Go.Ev Go.ChangeShapes Go.WideShapes Go.ChangeAt Go.RowKit
open Go.ChangeMaps (open_string shut_string)

theorem own : ownKnob Try.prog.godebug = none := by kernel_rfl
theorem laidOut : laidOutB Try.prog = true := by kernel_rfl
theorem ity_2 : IntsTy Try.prog 2 1 := IntsTy.int (by kernel_rfl) (by kernel_rfl)
theorem ity_33 : IntsTy Try.prog 33 2 := IntsTy.arr (n := 2) (k := 1) (by kernel_rfl) ity_2 (by kernel_rfl)

set_option maxRecDepth 100000 in
theorem lifted (os : Os) (started : os.Started) (H : Type) (enc : TypeId × Value → H) :
    ReturnsInHanded {} Try.checked os 3 .any (Rows.fnExactIsPolygonSpec.pre6 enc Try.prog Try.f3 Rows.fnExactIsPolygonRow.domain false) (Rows.fnExactIsPolygonSpec.post enc Try.prog Try.f3 false true false false) := by
  refine returnsInHanded_of_change (C := Try.checked) own started (by kernel_rfl) Try.func3
    (ChangeSpec.witness6 (enc := enc) (C := Try.checked) false ⟨#[], #[.slice none 0 0], []⟩ 8 (by kernel_rfl) (by kernel_rfl) (by kernel_rfl) (by kernel_rfl)) ?_
  intro W base args ds gs before hval0 hW hcnd _
  have hval : ∀ (j : Nat) t v, Try.f3.params[j]? = some t → args[j]? = some v → Value.okWide Try.prog W .any base t v := hval0
  have hW' := hW
  obtain ⟨p, q, hA0, hV, rfl, hfz, hnd⟩ := hW
  have hA : DataW.TrodAll enc Try.prog W 0 (fun _ => true) true Try.f3.params.toList args.toList ds p := hA0
  rw [Try.params3] at hA hval
  obtain ⟨v0, vs0, d0, ds0, p0, q0, hargs, rfl, rfl, h0, r0⟩ := trodAll_cons hA
  obtain ⟨rfl, rfl, rfl⟩ := trodAll_nil r0
  obtain rfl : args = #[v0] := by cases args; simp_all
  obtain ⟨rfl, rfl⟩ := trodVars_none hV
  have k0 := h0
  have lt0 : ∀ x ∈ p0, x.block < W.heap.size := by obtain ⟨m, hm⟩ := k0; exact DataW.trod_lt m _ _ _ hm
  have hrun : Calls Try.prog 3 #[v0] W (fun e w' => e = .returned (.bool true) ∧ Below W.heap.size W w') := by
    rcases open_slice_pts Try.underlying22 ity_33 (hval 0 22 v0 rfl rfl) h0 with rfl | ⟨ab, ao, len, cap, qs, rfl, hlc, hmx, hql, hat⟩
    · exact c_laws_FnExactIsPolygon_nil.run W
    · refine run_arg (L := pl (qs.take len) ++ pl (qs.drop len)) (c_laws_FnExactIsPolygon_list ⟨?_, ?_, pl_plain _, pl_plain _⟩ (Nat.le_trans hlc hmx)) (fun v m h => h.1) ((pl_plain _).app (pl_plain _)) (by rw [← pl_app, List.take_append_drop]; exact hat)
      · rw [pl_len, List.length_take]; omega
      · rw [pl_len, pl_len, List.length_take, List.length_drop]; omega
  clear hA0 hval0
  refine hrun.mono fun e W' ⟨he, bel⟩ => ?_
  subst he
  exact ⟨_, rfl, _, _, _, [], _, [], hW', trodAll_mk1 (shut_bool Try.underlying4 _), (trodAll_cons_mk (Below.trod laidOut (by kernel_rfl) (of_decide_eq_true (by kernel_rfl)) k0 bel lt0) trodAll_mk0), rfl, bel.frame _, fun h => by cases h⟩

theorem proved : Rows.FnExactIsPolygonSaid :=
  OpenClaim.holds_of_wide 3 Try.f3 rfl rfl rfl rfl rfl rfl rfl ⟨rfl, rfl, rfl, rfl, rfl⟩ rfl rfl rfl rfl rfl (by kernel_rfl) Try.func3 (by kernel_rfl)
    (of_decide_eq_true (by kernel_rfl)) (by unfold Func.isWrapper; first | (rw [if_pos (by decide +kernel)]; kernel_rfl) | (rw [if_neg (by decide +kernel)]; exact ⟨rfl, rfl⟩))
    (fun os started H enc _ => lifted os started H enc)
#print axioms proved
end Go.Proofs.Ytlkbfpklhncfbaa.fnExactIsPolygonDone
