/-
  Contracts of functions of the program (printed by a program of this work; Lean checks each).
  Conditions: as each contract states.
-/
import Derived.Test.YtjakdmfodnpkkaaK133
import Derived.Test.YtjakdmfodnpkkaaCut
import Derived.Test.YtjakdmfodnpkkaaKM2
namespace Go.Proofs.Ytjakdmfodnpkkaa
open Go.Ev Go.RowKit
set_option maxRecDepth 100000
set_option linter.unusedVariables false
set_option linter.unusedSimpArgs false

attribute [local irreducible] isAngF detF sqE anE anO arV arE frV lnT snT seqR sailR isPtF offK subK

set_option maxHeartbeats 16000000 in
theorem c_cut_FnSequences_N0   : evCut Try.prog tbl 0 7 (code13) [.slice none 0 0, undef, undef, undef, undef, undef, undef, undef, undef, undef, undef, undef, undef, undef, undef, undef, undef, undef, undef, undef, undef, undef, undef, undef, undef, undef, undef, undef, undef, undef, undef, undef, undef, undef, undef, undef, undef, undef, undef, undef, undef, undef, undef, undef, undef, undef, undef, undef, undef, undef, undef, undef, undef, undef, undef, undef, undef, undef, undef, undef, undef, undef, undef, undef, undef, undef, undef, undef, undef, undef, undef, undef, undef, undef, undef, undef, undef, undef, undef, undef, undef, undef, undef, undef, undef, undef, undef, undef, undef, undef, undef, undef, undef, undef, undef, undef, undef, undef, undef, undef, undef, undef, undef, undef, undef, undef, undef, undef, undef, undef, undef, undef, undef, undef, undef, undef, undef, undef, undef, undef, undef, undef, undef, undef, undef, undef, undef, undef, undef, undef, undef, undef, undef, undef, undef, undef, undef, undef, undef, undef, undef, undef, undef, undef, undef, undef, undef, undef, undef, undef, undef, undef, undef, undef, undef, undef, undef, undef, undef, undef, undef, undef, undef, undef, undef, undef, undef, undef, undef, undef, undef, undef, undef, undef, undef, undef, undef, undef, undef, undef, undef, undef, undef, undef, undef, undef, undef, undef, undef, undef, undef, undef, undef, undef, undef, undef, undef, undef, undef, undef, undef, undef, undef, undef, undef, undef, undef, undef, undef, undef, undef, undef, undef, undef, undef, undef, undef, undef, undef, undef, undef, undef, undef, undef, undef, undef, undef, undef, undef, undef, undef, undef, undef, undef, undef, undef, undef, undef, undef, undef, undef, undef, undef, undef, undef, undef, undef] [] (cutP tbl Try.f13.results.toList (OutK 0 (fun v m_ => v = bb true ∧ m_ = [])) 0 (fun tm mem => tm = [.slice none 0 0, wild, wild, wild, wild, wild, wild, wild, wild, wild, wild, wild, wild, wild, wild, wild, wild, wild, wild, wild, wild, wild, wild, wild, wild, wild, wild, wild, wild, wild, wild, wild, wild, wild, wild, wild, wild, wild, wild, wild, wild, wild, wild, wild, wild, wild, wild, wild, wild, wild, wild, wild, wild, wild, wild, wild, wild, wild, wild, wild, wild, wild, wild, wild, wild, wild, wild, wild, wild, wild, wild, wild, wild, wild, wild, wild, wild, wild, wild, wild, wild, wild, wild, wild, wild, wild, wild, wild, wild, wild, wild, wild, wild, wild, wild, wild, wild, wild, wild, wild, wild, wild, wild, wild, wild, wild, wild, wild, wild, wild, wild, wild, wild, wild, wild, wild, wild, wild, wild, wild, wild, wild, wild, wild, wild, wild, wild, wild, wild, wild, wild, wild, wild, wild, wild, wild, wild, wild, wild, wild, wild, wild, wild, wild, wild, wild, wild, wild, wild, wild, wild, wild, wild, wild, wild, wild, wild, wild, wild, wild, wild, wild, wild, wild, wild, wild, wild, wild, wild, wild, wild, wild, wild, wild, wild, wild, wild, wild, wild, wild, wild, wild, wild, wild, wild, wild, wild, wild, wild, wild, wild, wild, wild, wild, wild, wild, wild, wild, wild, wild, wild, wild, wild, wild, wild, wild, wild, wild, wild, wild, wild, wild, wild, wild, wild, wild, wild, wild, wild, wild, wild, wild, wild, wild, wild, wild, wild, wild, wild, wild, wild, wild, wild, wild, wild, wild, wild, wild, wild, wild, wild, wild, wild, wild, wild, wild, wild] ∧ mem = [])) := by
  
  conv => whnf
  all_goals (repeat' first
    | (show NextK _ _ _ _; exact next_forget [] ⟨rfl, rfl⟩ (tmR_rfl rfl rfl) trivial rfl rfl)
    | (refine CallOK.useR c_big_N [] rfl rfl rfl trivial (fun v_ mem_ hR => ?_); obtain ⟨rfl, rfl⟩ := hR; refine ⟨rfl, ?_⟩; conv => whnf)
    | (refine br_false (b := decide (((0 : Nat) : Int) > 4096)) (decide_eq_false ?_) ?_; (focus omega); conv => whnf)
    | (refine CallOK.useD (c_DrSeq_N) [] rfl rfl rfl trivial (fun v_ mem_ hR => ?_); obtain ⟨a1_, a2_, a3_, a4_, rfl, rfl⟩ := hR; refine ⟨rfl, t2 (pt a1_ a2_) (pt a3_ a4_), fun _ => rfl, ?_⟩; rcases seq_em a1_ a2_ a3_ a4_ with ⟨T_, p_, q_, hG_, hA_⟩ | ⟨T_, hG_, hA_⟩ | hN_ <;> conv => whnf)
    | (refine CallOK.useR (c_impl_Seq_good hG_) [] rfl rfl rfl trivial (fun v_ mem_ hR => ?_); obtain ⟨n1_, k1_, s1_, hr1_, hn1_, rfl, rfl⟩ := hR; refine ⟨rfl, ?_⟩; conv => whnf)
    | (refine CallOK.useR (c_spec_Seq_good hG_) [] rfl rfl rfl trivial (fun v_ mem_ hR => ?_); obtain ⟨n2_, k2_, s2_, hr2_, hn2_, rfl, rfl⟩ := hR; refine ⟨rfl, ?_⟩; conv => whnf)
    | (refine CallOK.useR (c_impl_Seq_bad hN_) [] rfl rfl rfl trivial (fun v_ mem_ hR => ?_); obtain ⟨rfl, rfl⟩ := hR; refine ⟨rfl, ?_⟩; conv => whnf)
    | (refine CallOK.useR (c_spec_Seq_bad hN_) [] rfl rfl rfl trivial (fun v_ mem_ hR => ?_); obtain ⟨rfl, rfl⟩ := hR; refine ⟨rfl, ?_⟩; conv => whnf)
    | (refine CallOK.useR (c_likeInts hr1_ hr2_ (by omega)) [_, _] rfl rfl rfl ⟨⟨⟨_, rfl, .plain rfl (fun _ h_ => by first | exact h_ | cases h_) (Row.all hr1_)⟩⟩, ⟨⟨_, rfl, .plain rfl (fun _ h_ => by first | exact h_ | cases h_) (Row.all hr2_)⟩⟩, trivial⟩ (fun v_ mem_ hR => ?_); obtain ⟨rfl, rfl⟩ := hR; refine ⟨rfl, ?_⟩; conv => whnf)
    | (refine (c_Det_sail hG_).call ?_; conv => whnf)
    | (refine (c_Det_sail hG_).quiet ?_; conv => whnf)
    | (refine CallR.call1 (c_FractionOf hr1_ (by omega)) rfl (plain_all (Row.all hr1_)) ⟨_, rfl⟩ ?_; conv => whnf)
    | (refine br_true (decide_eq_true (hG_.det (of_decide_eq_true (by assumption)))) ?_; conv => whnf)
    | (refine br_false (b := !decide ((frV _).1 = detF _ _ _ _)) (by rw [decide_eq_true (hG_.det (of_decide_eq_true (by assumption)))]; rfl) ?_; conv => whnf)
    | (refine br_true (b := decide (((n1_ : Nat) : Int).tmod 2 = 1)) (decide_eq_true (tmod2'.2 (by have h1_ := row_il hr1_; have h2_ := hG_.odd; omega))) ?_; conv => whnf)
    | (refine CallOK.useR (c_impl_An_ok hr1_ (by omega) hA_) [_] rfl rfl rfl ⟨⟨⟨_, rfl, .plain rfl (fun _ h_ => by first | exact h_ | cases h_) (Row.all hr1_)⟩⟩, trivial⟩ (fun v_ mem_ hR => ?_); obtain ⟨rfl, rfl⟩ := hR; refine ⟨rfl, ?_⟩; conv => whnf)
    | (refine CallOK.useR (c_impl_An_no hr1_ (by omega) hA_) [_] rfl rfl rfl ⟨⟨⟨_, rfl, .plain rfl (fun _ h_ => by first | exact h_ | cases h_) (Row.all hr1_)⟩⟩, trivial⟩ (fun v_ mem_ hR => ?_); obtain ⟨rfl, rfl⟩ := hR; refine ⟨rfl, ?_⟩; conv => whnf)
    | (refine CallOK.useR (c_impl_Seq_good (hG_.again hA_)) [] rfl rfl rfl trivial (fun v_ mem_ hR => ?_); obtain ⟨n3_, k3_, s3_, hr3_, hn3_, rfl, rfl⟩ := hR; refine ⟨rfl, ?_⟩; conv => whnf)
    | (refine CallOK.useR (c_likeInts hr3_ hr1_ (by omega)) [_, _] rfl rfl rfl ⟨⟨⟨_, rfl, .plain rfl (fun _ h_ => by first | exact h_ | cases h_) (Row.all hr3_)⟩⟩, ⟨⟨_, rfl, .plain rfl (fun _ h_ => by first | exact h_ | cases h_) (Row.all hr1_)⟩⟩, trivial⟩ (fun v_ mem_ hR => ?_); obtain ⟨rfl, rfl⟩ := hR; refine ⟨rfl, ?_⟩; conv => whnf)
    | (refine br_false (sqE_nz _ _ _ _) ?_; conv => whnf)
    | (refine br_false (anE_nz _) ?_; conv => whnf)
    | (refine (c_likeInts_nil).call ?_; conv => whnf)
    | (refine (c_likeInts_nil).quiet ?_; conv => whnf)
    | (refine (c_points5_nil).call ?_; conv => whnf)
    | (refine (c_points5_nil).quiet ?_; conv => whnf)
    | (refine br_true ?_ ?_; (focus (simp; done)); conv => whnf)
    | (refine br_false ?_ ?_; (focus (simp; done)); conv => whnf)
    | (refine br_false (decide_eq_false (by omega)) ?_; conv => whnf)
    | (refine draw_call (by decide +kernel) ?_; conv => whnf)
    | (show OutK _ _ _ _; exact out_forget [] ⟨rfl, rfl⟩ rfl (okB2_spec rfl) trivial rfl rfl)
    | (refine StoreK.mk rfl ?_; conv => whnf)
    | exact join_same
    | exact (by assumption : (_ : Bool) = (_ : Bool))
    | (refine br_true (by assumption) ?_; conv => whnf)
    | (refine br_false (by assumption) ?_; conv => whnf)
    | (refine br_not ?_; conv => whnf)
    | (refine br_code ?_; conv => whnf)
    | (with_reducible refine br_and ?_; conv => whnf)
    | (with_reducible refine br_or ?_; conv => whnf)
    | (refine br_eq2 ?_; conv => whnf)
    | (refine draw_auto (by decide +kernel) ?_; conv => whnf)
    | (refine draw_asg (by decide +kernel) ?_; conv => whnf)
    | (refine draw_st (by decide +kernel) ?_; conv => whnf)
    | (refine draw_call (by decide +kernel) ?_; conv => whnf)
    | (refine next_same ?_; conv => whnf)
    | (refine mapK_row (by assumption) ?_; conv => whnf)
    | (refine mapK_plain (Plain.of rfl) ?_; conv => whnf)
    | (refine mapK_lit ?_; conv => whnf)
    | (refine br_split (fun _ => ?_) (fun _ => ?_) <;> conv => whnf)
    | exact (rfl : (_ : Value) = _)
    | (simp only [*]; exact (rfl : (_ : Value) = _))
    | (simp [*]; done))

end Go.Proofs.Ytjakdmfodnpkkaa
