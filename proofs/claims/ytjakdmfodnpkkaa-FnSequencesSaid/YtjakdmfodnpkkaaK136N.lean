/-
  Contracts of functions of the program (printed by a program of this work; Lean checks each).
  Conditions: as each contract states.
-/
import Derived.Test.YtjakdmfodnpkkaaK133
import Derived.Test.YtjakdmfodnpkkaaCut
import Derived.Test.YtjakdmfodnpkkaaKM2
namespace Go.Proofs.Ytjakdmfodnpkkaa
open Go.Ev Go.RowKit
set_option maxRecDepth 100000
set_option linter.unusedVariables false
set_option linter.unusedSimpArgs false

attribute [local irreducible] isAngF detF sqE anE anO arV arE frV lnT snT seqR sailR isPtF offK subK

set_option maxHeartbeats 16000000 in
theorem c_cut_FnSequences_N2   : ev Try.prog tbl 0 (tlC 5 (tlC 7 (code13))) [.slice none 0 0, wild, wild, wild, wild, wild, wild, wild, wild, wild, wild, wild, wild, wild, wild, wild, wild, wild, wild, wild, wild, wild, wild, wild, wild, wild, wild, wild, wild, wild, wild, wild, wild, wild, wild, wild, wild, wild, wild, wild, wild, wild, wild, wild, wild, wild, wild, wild, wild, wild, wild, wild, wild, wild, wild, wild, wild, wild, wild, wild, wild, wild, wild, wild, wild, wild, wild, wild, wild, wild, wild, wild, wild, wild, wild, wild, wild, wild, wild, wild, wild, wild, wild, wild, wild, wild, wild, wild, wild, wild, wild, wild, wild, wild, wild, wild, wild, wild, wild, wild, wild, wild, wild, wild, wild, wild, wild, wild, wild, wild, wild, wild, wild, wild, wild, wild, wild, wild, wild, wild, wild, wild, wild, wild, wild, wild, wild, wild, wild, wild, wild, wild, wild, wild, wild, wild, wild, wild, wild, wild, wild, wild, wild, wild, wild, wild, wild, wild, wild, wild, wild, wild, wild, wild, wild, wild, wild, wild, wild, wild, wild, wild, wild, wild, wild, wild, wild, wild, wild, wild, wild, wild, wild, wild, wild, wild, wild, wild, wild, wild, wild, wild, wild, wild, wild, wild, wild, wild, wild, wild, wild, wild, wild, wild, wild, wild, wild, wild, wild, wild, wild, wild, wild, wild, wild, wild, wild, wild, wild, wild, wild, wild, wild, wild, wild, wild, wild, wild, wild, wild, wild, wild, wild, wild, wild, wild, wild, wild, wild, wild, wild, wild, wild, wild, wild, wild, wild, wild, wild, wild, wild, wild, wild, wild, wild, wild, wild] [] (finP tbl Try.f13.results.toList (OutK 0 (fun v m_ => v = bb true ∧ m_ = []))) := by
  
  conv => whnf
  all_goals (repeat' first
    | (show NextK _ _ _ _; exact next_forget [] ⟨rfl, rfl⟩ (tmR_rfl rfl rfl) trivial rfl rfl)
    | (refine CallOK.useR c_big_N [] rfl rfl rfl trivial (fun v_ mem_ hR => ?_); obtain ⟨rfl, rfl⟩ := hR; refine ⟨rfl, ?_⟩; conv => whnf)
    | (refine br_false (b := decide (((0 : Nat) : Int) > 4096)) (decide_eq_false ?_) ?_; (focus omega); conv => whnf)
    | (refine CallOK.useD (c_DrLen_N) [] rfl rfl rfl trivial (fun v_ mem_ hR => ?_); obtain ⟨c1_, c2_, c3_, c4_, rfl, rfl⟩ := hR; refine ⟨rfl, t2 (pt c1_ c2_) (pt c3_ c4_), fun _ => rfl, ?_⟩; rcases sail_em c1_ c2_ c3_ c4_ with ⟨Tc_, hGc_⟩ | hNc_ <;> conv => whnf)
    | (refine CallOK.useD (c_DrSin_N) [] rfl rfl rfl trivial (fun v_ mem_ hR => ?_); obtain ⟨e1_, e2_, e3_, e4_, rfl, rfl⟩ := hR; refine ⟨rfl, t2 (pt e1_ e2_) (pt e3_ e4_), fun _ => rfl, ?_⟩; rcases sail_em e1_ e2_ e3_ e4_ with ⟨Te_, hGe_⟩ | hNe_ <;> conv => whnf)
    | (refine CallOK.useD (c_DrAre_N) [] rfl rfl rfl trivial (fun v_ mem_ hR => ?_); obtain ⟨g1_, g2_, g3_, g4_, rfl, rfl⟩ := hR; refine ⟨rfl, t2 (pt g1_ g2_) (pt g3_ g4_), fun _ => rfl, ?_⟩; conv => whnf)
    | (refine CallOK.useR (c_impl_Len_good hGc_) [] rfl rfl rfl trivial (fun v_ mem_ hR => ?_); obtain ⟨n5_, k5_, s5_, hr5_, hn5_, rfl, rfl⟩ := hR; refine ⟨rfl, ?_⟩; conv => whnf)
    | (refine CallOK.useR (c_spec_Len_good hGc_) [] rfl rfl rfl trivial (fun v_ mem_ hR => ?_); obtain ⟨n6_, k6_, s6_, hr6_, hn6_, rfl, rfl⟩ := hR; refine ⟨rfl, ?_⟩; conv => whnf)
    | (refine CallOK.useR (c_impl_Len_bad hNc_) [] rfl rfl rfl trivial (fun v_ mem_ hR => ?_); obtain ⟨rfl, rfl⟩ := hR; refine ⟨rfl, ?_⟩; conv => whnf)
    | (refine CallOK.useR (c_spec_Len_bad hNc_) [] rfl rfl rfl trivial (fun v_ mem_ hR => ?_); obtain ⟨rfl, rfl⟩ := hR; refine ⟨rfl, ?_⟩; conv => whnf)
    | (refine CallOK.useR (c_likeInts hr5_ hr6_ (by omega)) [_, _] rfl rfl rfl ⟨⟨⟨_, rfl, .plain rfl (fun _ h_ => by first | exact h_ | cases h_) (Row.all hr5_)⟩⟩, ⟨⟨_, rfl, .plain rfl (fun _ h_ => by first | exact h_ | cases h_) (Row.all hr6_)⟩⟩, trivial⟩ (fun v_ mem_ hR => ?_); obtain ⟨rfl, rfl⟩ := hR; refine ⟨rfl, ?_⟩; conv => whnf)
    | (refine CallOK.useR (c_impl_Sin_good hGe_) [] rfl rfl rfl trivial (fun v_ mem_ hR => ?_); obtain ⟨n7_, k7_, s7_, hr7_, hn7_, rfl, rfl⟩ := hR; refine ⟨rfl, ?_⟩; conv => whnf)
    | (refine CallOK.useR (c_spec_Sin_good hGe_) [] rfl rfl rfl trivial (fun v_ mem_ hR => ?_); obtain ⟨n8_, k8_, s8_, hr8_, hn8_, rfl, rfl⟩ := hR; refine ⟨rfl, ?_⟩; conv => whnf)
    | (refine CallOK.useR (c_impl_Sin_bad hNe_) [] rfl rfl rfl trivial (fun v_ mem_ hR => ?_); obtain ⟨rfl, rfl⟩ := hR; refine ⟨rfl, ?_⟩; conv => whnf)
    | (refine CallOK.useR (c_spec_Sin_bad hNe_) [] rfl rfl rfl trivial (fun v_ mem_ hR => ?_); obtain ⟨rfl, rfl⟩ := hR; refine ⟨rfl, ?_⟩; conv => whnf)
    | (refine CallOK.useR (c_likeInts hr7_ hr8_ (by omega)) [_, _] rfl rfl rfl ⟨⟨⟨_, rfl, .plain rfl (fun _ h_ => by first | exact h_ | cases h_) (Row.all hr7_)⟩⟩, ⟨⟨_, rfl, .plain rfl (fun _ h_ => by first | exact h_ | cases h_) (Row.all hr8_)⟩⟩, trivial⟩ (fun v_ mem_ hR => ?_); obtain ⟨rfl, rfl⟩ := hR; refine ⟨rfl, ?_⟩; conv => whnf)
    | (refine CallOK.useR (c_impl_Are_all _ _ _ _) [] rfl rfl rfl trivial (fun v_ mem_ hR => ?_); obtain ⟨rfl, rfl⟩ := hR; refine ⟨rfl, ?_⟩; conv => whnf)
    | (refine CallOK.useR (c_spec_Are_all _ _ _ _) [] rfl rfl rfl trivial (fun v_ mem_ hR => ?_); obtain ⟨rfl, rfl⟩ := hR; refine ⟨rfl, ?_⟩; conv => whnf)
    | (show OutK _ _ _ _; exact out_forget [] ⟨congrArg Value.bool (decide_eq_true rfl), rfl⟩ rfl (okB2_spec rfl) trivial rfl rfl)
    | (refine br_false (sqE_nz _ _ _ _) ?_; conv => whnf)
    | (refine br_false (anE_nz _) ?_; conv => whnf)
    | (refine (c_likeInts_nil).call ?_; conv => whnf)
    | (refine (c_likeInts_nil).quiet ?_; conv => whnf)
    | (refine (c_points5_nil).call ?_; conv => whnf)
    | (refine (c_points5_nil).quiet ?_; conv => whnf)
    | (refine br_true ?_ ?_; (focus (simp; done)); conv => whnf)
    | (refine br_false ?_ ?_; (focus (simp; done)); conv => whnf)
    | (refine br_false (decide_eq_false (by omega)) ?_; conv => whnf)
    | (refine draw_call (by decide +kernel) ?_; conv => whnf)
    | (show OutK _ _ _ _; exact out_forget [] ⟨rfl, rfl⟩ rfl (okB2_spec rfl) trivial rfl rfl)
    | (refine StoreK.mk rfl ?_; conv => whnf)
    | exact join_same
    | exact (by assumption : (_ : Bool) = (_ : Bool))
    | (refine br_true (by assumption) ?_; conv => whnf)
    | (refine br_false (by assumption) ?_; conv => whnf)
    | (refine br_not ?_; conv => whnf)
    | (refine br_code ?_; conv => whnf)
    | (with_reducible refine br_and ?_; conv => whnf)
    | (with_reducible refine br_or ?_; conv => whnf)
    | (refine br_eq2 ?_; conv => whnf)
    | (refine draw_auto (by decide +kernel) ?_; conv => whnf)
    | (refine draw_asg (by decide +kernel) ?_; conv => whnf)
    | (refine draw_st (by decide +kernel) ?_; conv => whnf)
    | (refine draw_call (by decide +kernel) ?_; conv => whnf)
    | (refine next_same ?_; conv => whnf)
    | (refine mapK_row (by assumption) ?_; conv => whnf)
    | (refine mapK_plain (Plain.of rfl) ?_; conv => whnf)
    | (refine mapK_lit ?_; conv => whnf)
    | (refine br_split (fun _ => ?_) (fun _ => ?_) <;> conv => whnf)
    | exact (rfl : (_ : Value) = _)
    | (simp only [*]; exact (rfl : (_ : Value) = _))
    | (simp [*]; done))

end Go.Proofs.Ytjakdmfodnpkkaa
