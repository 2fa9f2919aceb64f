/-
  Contracts of functions of the program (printed by a program of this work; Lean checks each).
  Conditions: as each contract states.
-/
import Derived.Test.YtlkbfpklhncfbaaGreatDoorKM6
import Derived.Test.YtlkbfpklhncfbaaGreatDoorKMA
namespace Go.Proofs.YtlkbfpklhncfbaaGreatDoor
open Go.Ev Go.RowKit
set_option maxRecDepth 100000
set_option linter.unusedVariables false
set_option linter.unusedSimpArgs false

attribute [local irreducible] isPtF detF frV frB frG convs ratF ptxt ltxt badP readS tl parts isCoordF inF

set_option maxHeartbeats 16000000 in
theorem c_cut_FnExpansions_L5 {zs : List Int} {off n c : Nat} (hz : n ≤ zs.length) (hb : ∀ z ∈ zs, IsByte z) (hn : n ≤ 4096) : ev Tryz.prog tbl 1 (tlC 5 (tlC 5 (tlC 4 (tlC 5 (tlC 7 (code3)))))) [.slice (some ⟨0, off, none⟩) n c, wild, wild, wild, wild, wild, wild, wild, wild, wild, wild, wild, wild, wild, wild, wild, wild, wild, wild, wild, wild, wild, wild, wild, wild, wild, wild, wild, wild, wild, wild, wild, wild, wild, wild, wild, wild, wild, wild, wild, wild, wild, wild, wild, wild, wild, wild, wild, wild, wild, wild, wild, wild, wild, wild, wild, wild, wild, wild, wild, wild, wild, wild, wild, wild, wild, wild, wild, wild, wild, wild, wild, wild, wild, wild, wild, wild, wild, wild, wild, wild, wild, wild, wild, wild, wild, wild, wild, wild, wild, wild, wild, wild, wild, wild, wild, wild, wild, wild, wild, wild, wild, wild, wild, wild, wild, wild, wild, wild, wild, wild, wild, wild, wild, wild, wild, wild, wild, wild, wild, wild, wild, wild, wild, wild, wild, wild, wild, wild, wild, wild, wild, wild, wild, wild, wild, wild, wild, wild, wild, wild, wild, wild, wild, wild, wild, wild, wild, wild, wild, wild, wild, wild, wild, wild, wild, wild, wild, wild, wild, wild, wild, wild, wild, wild, wild, wild, wild, wild, wild, wild, wild, wild, wild, wild, wild, wild, wild, wild, wild, wild, wild, wild, wild, wild, wild, wild, wild, wild, wild, wild, wild, wild, wild, wild, wild, wild, wild, wild, wild, wild, wild, wild, wild, wild, wild, wild, wild, wild, wild, wild, wild, wild, wild, wild, wild, wild, wild, wild, wild, wild, wild, wild, wild, wild, wild, wild, wild, wild, wild, wild, wild, wild, wild, wild, wild, wild, wild, wild, wild, wild, wild, wild, wild, wild, wild, wild, wild, wild, wild, wild, wild, wild, wild, wild, wild, wild, wild, wild, wild, wild, wild, wild, wild, wild, wild, wild, wild, wild, wild, wild, wild, wild, wild, wild, wild, wild, wild, wild, wild, wild, wild, wild, wild, wild, wild, wild, wild, wild, wild, wild, wild, wild, wild, wild, wild, wild, wild, wild, wild, wild, wild, wild, wild, wild, wild, wild, wild, wild, wild, wild, wild, wild, wild, wild, wild, wild, wild, wild, wild, wild, wild, wild, wild, wild, wild, wild, wild, wild, wild, wild, wild, wild, wild, wild, wild, wild, wild, wild, wild, wild, wild, wild, wild, wild, wild, wild, wild, wild, wild, wild, wild, wild, wild, wild, wild, wild, wild, wild, wild, wild, wild, wild, wild, wild, wild] [(away off (bl zs), none)] (finP tbl Tryz.f3.results.toList (OutK 1 (fun v m_ => v = bb true ∧ m_ = [(away off (bl zs), none)]))) := by
  
  conv => whnf
  all_goals (repeat' first
    | (show NextK _ _ _ _; exact next_forget [] ⟨rfl, rfl⟩ (tmR_rfl rfl rfl) ⟨⟨⟨_, rfl, .lit (away_conc (bl_plain _) _).symm rfl (away_ok (bl_plain _) _)⟩⟩, trivial⟩ rfl rfl)
    | (refine CallOK.useR c_big_L [0] rfl rfl rfl ⟨⟨⟨_, rfl, .lit (away_conc (bl_plain _) _).symm (fun _ h_ => by cases h_) (away_ok (bl_plain _) _)⟩⟩, trivial⟩ (fun v_ mem_ hR => ?_); obtain ⟨rfl, rfl⟩ := hR; refine ⟨rfl, ?_⟩; conv => whnf)
    | (refine br_false (b := decide (((n : Nat) : Int) > 4096)) (decide_eq_false ?_) ?_; (focus omega); conv => whnf)
    | (refine CallOK.useR (c_DrPP_L hz hb hn) [0] rfl rfl rfl ⟨⟨⟨_, rfl, .lit (away_conc (bl_plain _) _).symm (fun _ h_ => by cases h_) (away_ok (bl_plain _) _)⟩⟩, trivial⟩ (fun v_ mem_ hR => ?_); obtain ⟨z1_, hz1_, rfl, rfl⟩ := hR; rcases rd_em z1_ with ⟨p1_, hp1_⟩ | hp1_ <;> (refine ⟨rfl, ?_⟩; conv => whnf))
    | (refine CallOK.useR (c_DrPL_L hz hb hn) [0] rfl rfl rfl ⟨⟨⟨_, rfl, .lit (away_conc (bl_plain _) _).symm (fun _ h_ => by cases h_) (away_ok (bl_plain _) _)⟩⟩, trivial⟩ (fun v_ mem_ hR => ?_); obtain ⟨z2_, hz2_, rfl, rfl⟩ := hR; rcases ls_em z2_ with rfl | ⟨hn2_, Q2_, hQ2_⟩ | ⟨hn2_, hQ2_⟩ <;> (refine ⟨rfl, ?_⟩; conv => whnf))
    | (refine CallOK.useR (c_impl_ParsePoint_ok hz1_ ((read_eq _).trans hp1_)) [] rfl rfl rfl trivial (fun v_ mem_ hR => ?_); obtain ⟨rfl, rfl⟩ := hR; refine ⟨rfl, ?_⟩; conv => whnf)
    | (refine CallOK.useR (c_impl_ParsePoint_no hz1_ ((read_eq _).trans hp1_)) [] rfl rfl rfl trivial (fun v_ mem_ hR => ?_); obtain ⟨rfl, rfl⟩ := hR; refine ⟨rfl, ?_⟩; conv => whnf)
    | (refine CallOK.useR (c_spec_ParsePoint_ok hz1_ hp1_) [] rfl rfl rfl trivial (fun v_ mem_ hR => ?_); obtain ⟨rfl, rfl⟩ := hR; refine ⟨rfl, ?_⟩; conv => whnf)
    | (refine CallOK.useR (c_spec_ParsePoint_no hz1_ hp1_) [] rfl rfl rfl trivial (fun v_ mem_ hR => ?_); obtain ⟨rfl, rfl⟩ := hR; refine ⟨rfl, ?_⟩; conv => whnf)
    | (refine CallOK.useR (c_impl_ParsePoints_ok hz2_ hn2_ hQ2_) [] rfl rfl rfl trivial (fun v_ mem_ hR => ?_); obtain ⟨n1_, k1_, s1_, hr1_, rfl, rfl⟩ := hR; refine ⟨rfl, ?_⟩; conv => whnf)
    | (refine CallOK.useR (c_spec_ParsePoints_ok hz2_ hn2_ hQ2_.all hQ2_.len) [] rfl rfl rfl trivial (fun v_ mem_ hR => ?_); obtain ⟨n2_, k2_, s2_, hr2_, rfl, rfl⟩ := hR; refine ⟨rfl, ?_⟩; conv => whnf)
    | (refine CallOK.useR (c_impl_ParsePoints_no hz2_ hn2_ hQ2_) [] rfl rfl rfl trivial (fun v_ mem_ hR => ?_); obtain ⟨rfl, rfl⟩ := hR; refine ⟨rfl, ?_⟩; conv => whnf)
    | (refine CallOK.useR (c_spec_PPs_no hz2_ hn2_ hQ2_) [] rfl rfl rfl trivial (fun v_ mem_ hR => ?_); obtain ⟨rfl, rfl⟩ := hR; refine ⟨rfl, ?_⟩; conv => whnf)
    | (refine CallOK.useR (c_spec_ParsePoints_nil) [] rfl rfl rfl trivial (fun v_ mem_ hR => ?_); obtain ⟨rfl, rfl⟩ := hR; refine ⟨rfl, ?_⟩; conv => whnf)
    | (refine CallOK.useD (c_DrDt_L hz hb hn) [0] rfl rfl rfl ⟨⟨⟨_, rfl, .lit (away_conc (bl_plain _) _).symm (fun _ h_ => by cases h_) (away_ok (bl_plain _) _)⟩⟩, trivial⟩ (fun v_ mem_ hR => ?_); obtain ⟨g1_, g2_, g3_, g4_, rfl, rfl⟩ := hR; refine ⟨rfl, t2 (pt g1_ g2_) (pt g3_ g4_), fun _ => rfl, ?_⟩; conv => whnf)
    | (refine CallOK.useD (c_DrDM_L hz hb hn) [0] rfl rfl rfl ⟨⟨⟨_, rfl, .lit (away_conc (bl_plain _) _).symm (fun _ h_ => by cases h_) (away_ok (bl_plain _) _)⟩⟩, trivial⟩ (fun v_ mem_ hR => ?_); obtain ⟨m1_, m2_, m3_, m4_, rfl, rfl⟩ := hR; refine ⟨rfl, q4 m1_ m2_ m3_ m4_, fun _ => rfl, ?_⟩; conv => whnf)
    | (refine CallOK.useD (c_DrIP_L hz hb hn) [0] rfl rfl rfl ⟨⟨⟨_, rfl, .lit (away_conc (bl_plain _) _).symm (fun _ h_ => by cases h_) (away_ok (bl_plain _) _)⟩⟩, trivial⟩ (fun v_ mem_ hR => ?_); obtain ⟨k1_, k2_, rfl, rfl⟩ := hR; refine ⟨rfl, pt k1_ k2_, fun _ => rfl, ?_⟩; conv => whnf)
    | (refine CallOK.useR (c_points5 hr1_ hr2_ (by have := row_pl hr1_; have := hQ2_.len; omega)) [_, _] rfl rfl rfl ⟨⟨⟨_, rfl, .plain rfl (fun _ h_ => by first | exact h_ | cases h_) (Row.all hr1_)⟩⟩, ⟨⟨_, rfl, .plain rfl (fun _ h_ => by first | exact h_ | cases h_) (Row.all hr2_)⟩⟩, trivial⟩ (fun v_ mem_ hR => ?_); obtain ⟨rfl, rfl⟩ := hR; refine ⟨rfl, ?_⟩; conv => whnf)
    | (refine CallOK.useR (c_points5_x (Row.all (Row.empty : Row (pl []) [] 0 0 2))) [_] rfl rfl rfl ⟨⟨⟨_, rfl, .plain rfl (fun _ h_ => by first | exact h_ | cases h_) (Row.all (Row.empty : Row (pl []) [] 0 0 2))⟩⟩, trivial⟩ (fun v_ mem_ hR => ?_); obtain ⟨rfl, rfl⟩ := hR; refine ⟨rfl, ?_⟩; conv => whnf)
    | (refine CallR.quiet2 (c_points5R hr1_ hr2_ (by have := row_pl hr1_; have := hQ2_.len; omega)) (plain_all (Row.all hr1_)) (plain_all (Row.all hr2_)) ⟨_, rfl⟩ ⟨_, rfl⟩ ?_; conv => whnf)
    | (refine CallR.quietn c_points5xR rfl ⟨_, rfl⟩ ?_; conv => whnf)
    | (refine (c_impl_ParsePoints_nil).call ?_; conv => whnf)
    | (refine (c_impl_ParsePoints_nil).quiet ?_; conv => whnf)
    | (refine (c_points5_nil).call ?_; conv => whnf)
    | (refine (c_points5_nil).quiet ?_; conv => whnf)
    | (refine ((c_impl_Det_all)).call ?_; conv => whnf)
    | (refine ((c_impl_Det_all)).quiet ?_; conv => whnf)
    | (refine ((c_impl_DetM_all)).call ?_; conv => whnf)
    | (refine ((c_impl_DetM_all)).quiet ?_; conv => whnf)
    | (refine ((c_spec_Det_all)).call ?_; conv => whnf)
    | (refine ((c_spec_Det_all)).quiet ?_; conv => whnf)
    | (refine ((c_spec_DetM_all)).call ?_; conv => whnf)
    | (refine ((c_spec_DetM_all)).quiet ?_; conv => whnf)
    | (refine (c_impl_IsPoint).call ?_; conv => whnf)
    | (refine (c_impl_IsPoint).quiet ?_; conv => whnf)
    | (refine (c_spec_IsPoint).call ?_; conv => whnf)
    | (refine (c_spec_IsPoint).quiet ?_; conv => whnf)
    | (show OutK _ _ _ _; exact out_forget [] ⟨congrArg Value.bool (decide_eq_true rfl), rfl⟩ rfl (okB2_spec rfl) ⟨⟨⟨_, rfl, .lit (away_conc (bl_plain _) _).symm rfl (away_ok (bl_plain _) _)⟩⟩, trivial⟩ rfl rfl)
    | (refine br_true ?_ ?_; (focus (simp; done)); conv => whnf)
    | (refine br_false ?_ ?_; (focus (simp; done)); conv => whnf)
    | (refine br_false (decide_eq_false (by omega)) ?_; conv => whnf)
    | (refine draw_call (by decide +kernel) ?_; conv => whnf)
    | (show OutK _ _ _ _; exact out_forget [] ⟨rfl, rfl⟩ rfl (okB2_spec rfl) ⟨⟨⟨_, rfl, .lit (away_conc (bl_plain _) _).symm rfl (away_ok (bl_plain _) _)⟩⟩, trivial⟩ rfl rfl)
    | (refine StoreK.mk rfl ?_; conv => whnf)
    | exact join_same
    | exact (by assumption : (_ : Bool) = (_ : Bool))
    | (refine br_true (by assumption) ?_; conv => whnf)
    | (refine br_false (by assumption) ?_; conv => whnf)
    | (refine br_not ?_; conv => whnf)
    | (refine br_code ?_; conv => whnf)
    | (with_reducible refine br_and ?_; conv => whnf)
    | (with_reducible refine br_or ?_; conv => whnf)
    | (refine br_eq2 ?_; conv => whnf)
    | (refine draw_auto (by decide +kernel) ?_; conv => whnf)
    | (refine draw_asg (by decide +kernel) ?_; conv => whnf)
    | (refine draw_st (by decide +kernel) ?_; conv => whnf)
    | (refine draw_call (by decide +kernel) ?_; conv => whnf)
    | (refine next_same ?_; conv => whnf)
    | (refine mapK_row (by assumption) ?_; conv => whnf)
    | (refine mapK_plain (Plain.of rfl) ?_; conv => whnf)
    | (refine mapK_lit ?_; conv => whnf)
    | (refine br_split (fun _ => ?_) (fun _ => ?_) <;> conv => whnf)
    | exact (rfl : (_ : Value) = _)
    | (simp only [*]; exact (rfl : (_ : Value) = _))
    | (simp [*]; done))

end Go.Proofs.YtlkbfpklhncfbaaGreatDoor
