/-
  Contracts of functions of the program (printed by a program of this work; Lean checks each).
  Conditions: as each contract states.
-/
import Derived.Test.YtgbnoaggnfjjgaaK55
namespace Go.Proofs.Ytgbnoaggnfjjgaa
open Go.Ev Go.RowKit
set_option maxRecDepth 100000
set_option linter.unusedVariables false
set_option linter.unusedSimpArgs false

set_option maxHeartbeats 16000000 in
theorem c_AnyMatrix_L {zs : List Int} {off n c : Nat} {o h : Int} (hz : n ≤ zs.length) (hb : ∀ z ∈ zs, IsByte z) (hn : n ≤ 4096) (ha : SrcAt n o) : CallOK Try.prog n_spec_l01AnyMatrix [.pointer (some ⟨1, 0, none⟩)] [(away off (bl zs), none), ([.slice (some ⟨0, off, none⟩) n c, ii o, wv h], some t_spec_l01Source)] (fun v m_ => ∃ a1 a2 a3 a4 o2 h2, SrcAt n o2 ∧ v = q4 a1 a2 a3 a4 ∧ m_ = [(away off (bl zs), none), ([.slice (some ⟨0, off, none⟩) n c, ii o2, wv h2], some t_spec_l01Source)]) := by
  refine callOK_ofF good fn_spec_l01AnyMatrix ?_
  conv => whnf
  all_goals (repeat' first
    | (refine draw_pt (.take 0 (.take 2 (.take 4 (.duo 1 (.take 7 (.duo 3 (.solo 5 (.solo 6 (.take 8 (.solo 9 .done)))) 5 (.solo 3 (.solo 6 (.take 8 (.solo 9 .done)))))) 5 (.solo 1 (.take 7 (.solo 3 (.solo 6 (.take 8 (.solo 9 .done)))))))))) (by decide +kernel) ?_; conv => whnf)
    | (refine And.intro ?_ ?_ <;> conv => whnf)
    | (refine CallOK.useD (c_Next_L hz hb hn (by assumption)) [0, 1] rfl rfl rfl ⟨⟨⟨_, rfl, .lit (away_conc (bl_plain _) _).symm (fun _ h_ => by cases h_) (away_ok (bl_plain _) _)⟩⟩, ⟨⟨_, rfl, .lit rfl (fun _ h_ => h_) (fun v hv => okB0_spec (allL_spec rfl v hv))⟩⟩, trivial⟩ (fun v_ mem_ hR => ?_); obtain ⟨x_, o_, h_, hx_, ha_, rfl, rfl⟩ := hR; refine ⟨rfl, ii x_, fun _ => rfl, ?_⟩; (conv => whnf); refine mapK_eval (cs' := [.slice (some ⟨0, off, none⟩) n c, ii o_, wv h_]) rfl ?_; conv => whnf)
    | (refine CallOK.useD (c_DrawUnit_L hz hb hn (by assumption)) [0, 1] rfl rfl rfl ⟨⟨⟨_, rfl, .lit (away_conc (bl_plain _) _).symm (fun _ h_ => by cases h_) (away_ok (bl_plain _) _)⟩⟩, ⟨⟨_, rfl, .lit rfl (fun _ h_ => h_) (fun v hv => okB0_spec (allL_spec rfl v hv))⟩⟩, trivial⟩ (fun v_ mem_ hR => ?_); obtain ⟨a1_, a2_, a3_, a4_, o_, h_, ha_, rfl, rfl⟩ := hR; refine ⟨rfl, q4 a1_ a2_ a3_ a4_, fun _ => rfl, ?_⟩; (conv => whnf); refine mapK_eval (cs' := [.slice (some ⟨0, off, none⟩) n c, ii o_, wv h_]) rfl ?_; conv => whnf)
    | (refine CallOK.useD (c_DrawPoint_L hz hb hn (by assumption)) [0, 1] rfl rfl rfl ⟨⟨⟨_, rfl, .lit (away_conc (bl_plain _) _).symm (fun _ h_ => by cases h_) (away_ok (bl_plain _) _)⟩⟩, ⟨⟨_, rfl, .lit rfl (fun _ h_ => h_) (fun v hv => okB0_spec (allL_spec rfl v hv))⟩⟩, trivial⟩ (fun v_ mem_ hR => ?_); obtain ⟨px_, py_, o_, h_, hp_, ha_, rfl, rfl⟩ := hR; refine ⟨rfl, pt px_ py_, fun _ => rfl, ?_⟩; (conv => whnf); refine mapK_eval (cs' := [.slice (some ⟨0, off, none⟩) n c, ii o_, wv h_]) rfl ?_; conv => whnf)
    | (refine CallOK.useD (c_Size_L hz hb hn (by assumption)) [0, 1] rfl rfl rfl ⟨⟨⟨_, rfl, .lit (away_conc (bl_plain _) _).symm (fun _ h_ => by cases h_) (away_ok (bl_plain _) _)⟩⟩, ⟨⟨_, rfl, .lit rfl (fun _ h_ => h_) (fun v hv => okB0_spec (allL_spec rfl v hv))⟩⟩, trivial⟩ (fun v_ mem_ hR => ?_); obtain ⟨y_, o_, h_, ha_, rfl, rfl⟩ := hR; refine ⟨rfl, ii y_, fun _ => rfl, ?_⟩; (conv => whnf); refine mapK_eval (cs' := [.slice (some ⟨0, off, none⟩) n c, ii o_, wv h_]) rfl ?_; conv => whnf)
    | (refine CallOK.useD (c_Pick_L (xs := [1000001, -1099511627776]) hz hb hn (by assumption) (by decide) (by decide)) [0, 1, 6] rfl rfl rfl ⟨⟨⟨_, rfl, .lit (away_conc (bl_plain _) _).symm (fun _ h_ => by cases h_) (away_ok (bl_plain _) _)⟩⟩, ⟨⟨_, rfl, .lit rfl (fun _ h_ => h_) (fun v hv => okB0_spec (allL_spec rfl v hv))⟩⟩, ⟨⟨_, rfl, .plain rfl (fun _ h_ => by cases h_) (il_plain _)⟩⟩, trivial⟩ (fun v_ mem_ hR => ?_); obtain ⟨y_, o_, h_, ha_, rfl, rfl⟩ := hR; refine ⟨rfl, ii y_, fun _ => rfl, ?_⟩; (conv => whnf); refine mapK_eval (cs' := [.slice (some ⟨0, off, none⟩) n c, ii o_, wv h_]) rfl ?_; conv => whnf)
    | (refine CallOK.useD (c_Pick_L (xs := [1000001, -1099511627776]) hz hb hn (by assumption) (by decide) (by decide)) [0, 1, 4] rfl rfl rfl ⟨⟨⟨_, rfl, .lit (away_conc (bl_plain _) _).symm (fun _ h_ => by cases h_) (away_ok (bl_plain _) _)⟩⟩, ⟨⟨_, rfl, .lit rfl (fun _ h_ => h_) (fun v hv => okB0_spec (allL_spec rfl v hv))⟩⟩, ⟨⟨_, rfl, .plain rfl (fun _ h_ => by cases h_) (il_plain _)⟩⟩, trivial⟩ (fun v_ mem_ hR => ?_); obtain ⟨y_, o_, h_, ha_, rfl, rfl⟩ := hR; refine ⟨rfl, ii y_, fun _ => rfl, ?_⟩; (conv => whnf); refine mapK_eval (cs' := [.slice (some ⟨0, off, none⟩) n c, ii o_, wv h_]) rfl ?_; conv => whnf)
    | (show brK (decide (0 ≤ x_ ∧ x_ < _)) _ _; rcases two_of hx_ with rfl | rfl <;> conv => whnf)
    | (show OutK _ _ _ _; (exact out_forget [] ⟨_, _, _, _, _, _, ha_, rfl, rfl⟩ rfl (okB2_spec rfl) ⟨⟨⟨_, rfl, .lit (away_conc (bl_plain _) _).symm rfl (away_ok (bl_plain _) _)⟩⟩, ⟨⟨_, rfl, .lit rfl rfl (fun v hv => okB0_spec (allL_spec rfl v hv))⟩⟩, trivial⟩ rfl rfl))
    | (refine StoreK.mk rfl ?_; conv => whnf)
    | exact join_same
    | exact (by assumption : (_ : Bool) = (_ : Bool))
    | (refine br_true (by assumption) ?_; conv => whnf)
    | (refine br_false (by assumption) ?_; conv => whnf)
    | (refine br_not ?_; conv => whnf)
    | (refine br_code ?_; conv => whnf)
    | (with_reducible refine br_and ?_; conv => whnf)
    | (with_reducible refine br_or ?_; conv => whnf)
    | (refine br_eq2 ?_; conv => whnf)
    | (refine draw_auto (by decide +kernel) ?_; conv => whnf)
    | (refine draw_asg (by decide +kernel) ?_; conv => whnf)
    | (refine draw_st (by decide +kernel) ?_; conv => whnf)
    | (refine draw_call (by decide +kernel) ?_; conv => whnf)
    | (refine enter_same (loop_n 12 ?_); conv => whnf)
    | (refine next_same ?_; conv => whnf)
    | (refine mapK_row (by assumption) ?_; conv => whnf)
    | (refine mapK_plain (Plain.of rfl) ?_; conv => whnf)
    | (refine mapK_lit ?_; conv => whnf)
    | (refine br_split (fun _ => ?_) (fun _ => ?_) <;> conv => whnf)
    | exact (rfl : (_ : Value) = _)
    | (simp only [*]; exact (rfl : (_ : Value) = _))
    | (simp [*]; done))

set_option maxHeartbeats 16000000 in
theorem c_AnyMatrix_N  {o h : Int}  (ha : SrcAt 0 o) : CallOK Try.prog n_spec_l01AnyMatrix [.pointer (some ⟨0, 0, none⟩)] [([.slice none 0 0, ii o, wv h], some t_spec_l01Source)] (fun v m_ => ∃ a1 a2 a3 a4 o2 h2, SrcAt 0 o2 ∧ v = q4 a1 a2 a3 a4 ∧ m_ = [([.slice none 0 0, ii o2, wv h2], some t_spec_l01Source)]) := by
  refine callOK_ofF good fn_spec_l01AnyMatrix ?_
  conv => whnf
  all_goals (repeat' first
    | (refine draw_pt (.take 0 (.take 2 (.take 4 (.duo 1 (.take 7 (.duo 3 (.solo 5 (.solo 6 (.take 8 (.solo 9 .done)))) 5 (.solo 3 (.solo 6 (.take 8 (.solo 9 .done)))))) 5 (.solo 1 (.take 7 (.solo 3 (.solo 6 (.take 8 (.solo 9 .done)))))))))) (by decide +kernel) ?_; conv => whnf)
    | (refine And.intro ?_ ?_ <;> conv => whnf)
    | (refine CallOK.useD (c_Next_N (by assumption)) [0] rfl rfl rfl ⟨⟨⟨_, rfl, .lit rfl (fun _ h_ => h_) (fun v hv => okB0_spec (allL_spec rfl v hv))⟩⟩, trivial⟩ (fun v_ mem_ hR => ?_); obtain ⟨x_, o_, h_, hx_, ha_, rfl, rfl⟩ := hR; refine ⟨rfl, ii x_, fun _ => rfl, ?_⟩; (conv => whnf); refine mapK_eval (cs' := [.slice none 0 0, ii o_, wv h_]) rfl ?_; conv => whnf)
    | (refine CallOK.useD (c_DrawUnit_N (by assumption)) [0] rfl rfl rfl ⟨⟨⟨_, rfl, .lit rfl (fun _ h_ => h_) (fun v hv => okB0_spec (allL_spec rfl v hv))⟩⟩, trivial⟩ (fun v_ mem_ hR => ?_); obtain ⟨a1_, a2_, a3_, a4_, o_, h_, ha_, rfl, rfl⟩ := hR; refine ⟨rfl, q4 a1_ a2_ a3_ a4_, fun _ => rfl, ?_⟩; (conv => whnf); refine mapK_eval (cs' := [.slice none 0 0, ii o_, wv h_]) rfl ?_; conv => whnf)
    | (refine CallOK.useD (c_DrawPoint_N (by assumption)) [0] rfl rfl rfl ⟨⟨⟨_, rfl, .lit rfl (fun _ h_ => h_) (fun v hv => okB0_spec (allL_spec rfl v hv))⟩⟩, trivial⟩ (fun v_ mem_ hR => ?_); obtain ⟨px_, py_, o_, h_, hp_, ha_, rfl, rfl⟩ := hR; refine ⟨rfl, pt px_ py_, fun _ => rfl, ?_⟩; (conv => whnf); refine mapK_eval (cs' := [.slice none 0 0, ii o_, wv h_]) rfl ?_; conv => whnf)
    | (refine CallOK.useD (c_Size_N (by assumption)) [0] rfl rfl rfl ⟨⟨⟨_, rfl, .lit rfl (fun _ h_ => h_) (fun v hv => okB0_spec (allL_spec rfl v hv))⟩⟩, trivial⟩ (fun v_ mem_ hR => ?_); obtain ⟨y_, o_, h_, ha_, rfl, rfl⟩ := hR; refine ⟨rfl, ii y_, fun _ => rfl, ?_⟩; (conv => whnf); refine mapK_eval (cs' := [.slice none 0 0, ii o_, wv h_]) rfl ?_; conv => whnf)
    | (refine CallOK.useD (c_Pick_N (xs := [1000001, -1099511627776]) (by assumption) (by decide) (by decide)) [0, 5] rfl rfl rfl ⟨⟨⟨_, rfl, .lit rfl (fun _ h_ => h_) (fun v hv => okB0_spec (allL_spec rfl v hv))⟩⟩, ⟨⟨_, rfl, .plain rfl (fun _ h_ => by cases h_) (il_plain _)⟩⟩, trivial⟩ (fun v_ mem_ hR => ?_); obtain ⟨y_, o_, h_, ha_, rfl, rfl⟩ := hR; refine ⟨rfl, ii y_, fun _ => rfl, ?_⟩; (conv => whnf); refine mapK_eval (cs' := [.slice none 0 0, ii o_, wv h_]) rfl ?_; conv => whnf)
    | (refine CallOK.useD (c_Pick_N (xs := [1000001, -1099511627776]) (by assumption) (by decide) (by decide)) [0, 3] rfl rfl rfl ⟨⟨⟨_, rfl, .lit rfl (fun _ h_ => h_) (fun v hv => okB0_spec (allL_spec rfl v hv))⟩⟩, ⟨⟨_, rfl, .plain rfl (fun _ h_ => by cases h_) (il_plain _)⟩⟩, trivial⟩ (fun v_ mem_ hR => ?_); obtain ⟨y_, o_, h_, ha_, rfl, rfl⟩ := hR; refine ⟨rfl, ii y_, fun _ => rfl, ?_⟩; (conv => whnf); refine mapK_eval (cs' := [.slice none 0 0, ii o_, wv h_]) rfl ?_; conv => whnf)
    | (show brK (decide (0 ≤ x_ ∧ x_ < _)) _ _; rcases two_of hx_ with rfl | rfl <;> conv => whnf)
    | (show OutK _ _ _ _; (exact out_forget [] ⟨_, _, _, _, _, _, ha_, rfl, rfl⟩ rfl (okB2_spec rfl) ⟨⟨⟨_, rfl, .lit rfl rfl (fun v hv => okB0_spec (allL_spec rfl v hv))⟩⟩, trivial⟩ rfl rfl))
    | (refine StoreK.mk rfl ?_; conv => whnf)
    | exact join_same
    | exact (by assumption : (_ : Bool) = (_ : Bool))
    | (refine br_true (by assumption) ?_; conv => whnf)
    | (refine br_false (by assumption) ?_; conv => whnf)
    | (refine br_not ?_; conv => whnf)
    | (refine br_code ?_; conv => whnf)
    | (with_reducible refine br_and ?_; conv => whnf)
    | (with_reducible refine br_or ?_; conv => whnf)
    | (refine br_eq2 ?_; conv => whnf)
    | (refine draw_auto (by decide +kernel) ?_; conv => whnf)
    | (refine draw_asg (by decide +kernel) ?_; conv => whnf)
    | (refine draw_st (by decide +kernel) ?_; conv => whnf)
    | (refine draw_call (by decide +kernel) ?_; conv => whnf)
    | (refine enter_same (loop_n 12 ?_); conv => whnf)
    | (refine next_same ?_; conv => whnf)
    | (refine mapK_row (by assumption) ?_; conv => whnf)
    | (refine mapK_plain (Plain.of rfl) ?_; conv => whnf)
    | (refine mapK_lit ?_; conv => whnf)
    | (refine br_split (fun _ => ?_) (fun _ => ?_) <;> conv => whnf)
    | exact (rfl : (_ : Value) = _)
    | (simp only [*]; exact (rfl : (_ : Value) = _))
    | (simp [*]; done))

end Go.Proofs.Ytgbnoaggnfjjgaa
