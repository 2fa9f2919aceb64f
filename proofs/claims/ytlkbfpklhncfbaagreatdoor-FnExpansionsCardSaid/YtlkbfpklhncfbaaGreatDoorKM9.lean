/-
  Several texts of this work in one (a claim holds at most 60 files).
  Conditions: as each contract states.
-/
import Derived.Test.YtlkbfpklhncfbaaGreatDoorKM7
import Derived.Test.YtlkbfpklhncfbaaGreatDoorKM8
import Derived.Test.YtlkbfpklhncfbaaGreatDoorKM1
section
/-
  Contracts of functions of the program (printed by a program of this work; Lean checks each).
  Conditions: as each contract states.
-/
namespace Go.Proofs.YtlkbfpklhncfbaaGreatDoor
open Go.Ev Go.RowKit
set_option maxRecDepth 100000
set_option linter.unusedVariables false
set_option linter.unusedSimpArgs false

attribute [local irreducible] gcdF isPtF ptxt ltxt badP u64add u64mul u64and u64shr

set_option maxHeartbeats 1000000 in
theorem c_NextX_L {zs : List Int} {off n c : Nat} {o h m : Int} (hz : n ≤ zs.length) (hb : ∀ z ∈ zs, IsByte z) (hn : n ≤ 4096) (ha : SrcAt n o) : CallOK Tryz.prog n_spec_l01Next [.pointer (some ⟨1, 0, none⟩), ii m] [(away off (bl zs), none), ([.slice (some ⟨0, off, none⟩) n c, ii o, wv h], some t_spec_l01Source)] (fun v m_ => ∃ x o2 h2, NextX n o h m x o2 h2 ∧ v = ii x ∧ m_ = [(away off (bl zs), none), ([.slice (some ⟨0, off, none⟩) n c, ii o2, wv h2], some t_spec_l01Source)]) := by
  refine callOK_ofF good fn_spec_l01Next ?_
  conv => whnf
  all_goals (repeat' first
    | (refine br_false (b := decide (m = 0)) (decide_eq_false ?_) ?_; (focus (have := of_decide_eq_false (show decide (m < 1) = false by assumption); omega)); conv => whnf)
    | (refine br_in ha.lo (of_decide_eq_true (show decide (o < (n : Int)) = true by assumption)) ?_; conv => whnf)
    | (refine force_eq (take_bl (xs := zs) (i := o.toNat) rfl ?_ ?_) ?_; (focus (simp only [Nat.mul_one]; done)); (focus (have := ha.lo; have := of_decide_eq_true (show decide (o < (n : Int)) = true by assumption); omega)); conv => whnf)
    | (show OutK _ _ _ _; rename decide (m < 1) = true => q0_; (exact out_forget [] ⟨_, _, _, .zero (of_decide_eq_true q0_) ha, rfl, rfl⟩ rfl (okB2_spec rfl) ⟨⟨⟨_, rfl, .lit (away_conc (bl_plain _) _).symm rfl (away_ok (bl_plain _) _)⟩⟩, ⟨⟨_, rfl, .lit rfl rfl (fun v hv => okB0_spec (allL_spec rfl v hv))⟩⟩, trivial⟩ rfl rfl))
    | (show OutK _ _ _ _; rename decide (o < ((n : Nat) : Int)) = false => q0_; (exact out_forget [] ⟨_, _, _, .far (of_decide_eq_false q0_) ha, rfl, rfl⟩ rfl (okB2_spec rfl) ⟨⟨⟨_, rfl, .lit (away_conc (bl_plain _) _).symm rfl (away_ok (bl_plain _) _)⟩⟩, ⟨⟨_, rfl, .lit rfl rfl (fun v hv => okB0_spec (allL_spec rfl v hv))⟩⟩, trivial⟩ rfl rfl))
    | (show OutK _ _ _ _; rename decide (o < ((n : Nat) : Int)) = true => q0_; (exact out_forget [] ⟨_, _, _, .near (of_decide_eq_true q0_) hn ha (src_xb (Go.Ev.byte_at hb (by have := ha.lo; have := of_decide_eq_true q0_; omega))), rfl, rfl⟩ rfl (okB2_spec rfl) ⟨⟨⟨_, rfl, .lit (away_conc (bl_plain _) _).symm rfl (away_ok (bl_plain _) _)⟩⟩, ⟨⟨_, rfl, .lit rfl rfl (fun v hv => okB0_spec (allL_spec rfl v hv))⟩⟩, trivial⟩ rfl rfl))
    | (refine StoreK.mk rfl ?_; conv => whnf)
    | exact join_same
    | exact (by assumption : (_ : Bool) = (_ : Bool))
    | (refine br_true (by assumption) ?_; conv => whnf)
    | (refine br_false (by assumption) ?_; conv => whnf)
    | (refine br_not ?_; conv => whnf)
    | (refine br_code ?_; conv => whnf)
    | (with_reducible refine br_and ?_; conv => whnf)
    | (with_reducible refine br_or ?_; conv => whnf)
    | (refine br_eq2 ?_; conv => whnf)
    | (refine draw_auto (by decide +kernel) ?_; conv => whnf)
    | (refine draw_asg (by decide +kernel) ?_; conv => whnf)
    | (refine draw_st (by decide +kernel) ?_; conv => whnf)
    | (refine draw_call (by decide +kernel) ?_; conv => whnf)
    | (refine enter_same (loop_n 12 ?_); conv => whnf)
    | (refine next_same ?_; conv => whnf)
    | (refine mapK_row (by assumption) ?_; conv => whnf)
    | (refine mapK_plain (Plain.of rfl) ?_; conv => whnf)
    | (refine mapK_lit ?_; conv => whnf)
    | (refine br_split (fun _ => ?_) (fun _ => ?_) <;> conv => whnf)
    | exact (rfl : (_ : Value) = _)
    | (simp only [*]; exact (rfl : (_ : Value) = _))
    | (simp [*]; done))

set_option maxHeartbeats 4000000 in
theorem c_Dmg_L {zs : List Int} {off n c : Nat} {o h : Int} {t : ByteArray} (hz : n ≤ zs.length) (hb : ∀ z ∈ zs, IsByte z) (hn : n ≤ 4096) (ha : SrcAt n o) (ht : t.size < 4294967281) : CallOK Tryz.prog n_spec_l01Damage [.pointer (some ⟨1, 0, none⟩), .string t] [(away off (bl zs), none), ([.slice (some ⟨0, off, none⟩) n c, ii o, wv h], some t_spec_l01Source)] (fun v m_ => ∃ (t2 : ByteArray) (o2 h2 : Int), DmgX n o h t.size t2.size o2 h2 ∧ v = .string t2 ∧ m_ = [(away off (bl zs), none), ([.slice (some ⟨0, off, none⟩) n c, ii o2, wv h2], some t_spec_l01Source)]) := by
  refine callOK_ofF good fn_spec_l01Damage ?_
  conv => whnf
  all_goals (repeat' first
    | (refine draw_pt (.take 0 (.take 1 (.take 2 (.take 3 (.take 4 (.take 5 (.take 6 (.take 7 (.take 8 (.take 9 (.solo 10 .done))))))))))) (by decide +kernel) ?_; conv => whnf)
    | (refine draw_pt (.take 0 (.take 1 (.take 2 (.take 3 (.take 4 (.take 5 (.take 6 (.take 7 (.solo 8 .done))))))))) (by decide +kernel) ?_; conv => whnf)
    | (refine draw_pt (.take 0 (.take 1 (.take 2 (.take 3 (.take 4 (.take 5 (.take 6 (.take 7 (.take 8 (.solo 9 .done)))))))))) (by decide +kernel) ?_; conv => whnf)
    | (refine CallOK.useD (c_NextX_L (m := 10) hz hb hn (by assumption)) [0, 1] rfl rfl rfl ⟨⟨⟨_, rfl, .lit (away_conc (bl_plain _) _).symm (fun _ h_ => by cases h_) (away_ok (bl_plain _) _)⟩⟩, ⟨⟨_, rfl, .lit rfl (fun _ h_ => h_) (fun v hv => okB0_spec (allL_spec rfl v hv))⟩⟩, trivial⟩ (fun v_ mem_ hR => ?_); obtain ⟨x10_, o_, h_, hx10_, rfl, rfl⟩ := hR; refine ⟨rfl, ii x10_, fun _ => rfl, ?_⟩; (conv => whnf); refine mapK_eval (cs' := [.slice (some ⟨0, off, none⟩) n c, ii o_, wv h_]) rfl ?_; conv => whnf)
    | (refine CallOK.useD (c_NextX_L (m := 3) hz hb hn hxk_.at_) [0, 1] rfl rfl rfl ⟨⟨⟨_, rfl, .lit (away_conc (bl_plain _) _).symm (fun _ h_ => by cases h_) (away_ok (bl_plain _) _)⟩⟩, ⟨⟨_, rfl, .lit rfl (fun _ h_ => h_) (fun v hv => okB0_spec (allL_spec rfl v hv))⟩⟩, trivial⟩ (fun v_ mem_ hR => ?_); obtain ⟨x3_, o_, h_, hx3_, rfl, rfl⟩ := hR; refine ⟨rfl, ii x3_, fun _ => rfl, ?_⟩; (conv => whnf); refine mapK_eval (cs' := [.slice (some ⟨0, off, none⟩) n c, ii o_, wv h_]) rfl ?_; conv => whnf)
    | (refine CallOK.useD (c_NextX_L (m := (t.size : Int)) hz hb hn hx10_.at_) [0, 1] rfl rfl rfl ⟨⟨⟨_, rfl, .lit (away_conc (bl_plain _) _).symm (fun _ h_ => by cases h_) (away_ok (bl_plain _) _)⟩⟩, ⟨⟨_, rfl, .lit rfl (fun _ h_ => h_) (fun v hv => okB0_spec (allL_spec rfl v hv))⟩⟩, trivial⟩ (fun v_ mem_ hR => ?_); obtain ⟨xk_, o_, h_, hxk_, rfl, rfl⟩ := hR; refine ⟨rfl, ii xk_, fun _ => rfl, ?_⟩; (conv => whnf); refine mapK_eval (cs' := [.slice (some ⟨0, off, none⟩) n c, ii o_, wv h_]) rfl ?_; conv => whnf)
    | (refine br_in (i := x10_) (n := 10) ?_ ?_ ?_; (focus (have := hx10_.bel (by omega); omega)); (focus (have := hx10_.bel (by omega); omega)); conv => whnf)
    | (obtain ⟨sg_, hsg_, es_⟩ := sign_take (i := x10_.toNat) (o := 0 + x10_.toNat * 1) (by omega) (by have := hx10_.bel (by omega); omega); refine force_eq es_ ?_; conv => whnf)
    | (refine br_true (dmg_c1 (dmg_k hxk_ (by assumption) ht)) ?_; conv => whnf)
    | (refine br_true (dmg_c2 (dmg_k hxk_ (by assumption) ht)) ?_; conv => whnf)
    | (refine AddS.mk (by simp only [ByteArray.size_append, ByteArray.size_extract]; omega) ?_; conv => whnf)
    | (show OutK _ _ _ _; (exact out_forget [] ⟨_, _, _, DmgX.one ha hx10_ (dmg_z (by assumption)) hsg_, rfl, rfl⟩ rfl (okB2_spec rfl) ⟨⟨⟨_, rfl, .lit (away_conc (bl_plain _) _).symm rfl (away_ok (bl_plain _) _)⟩⟩, ⟨⟨_, rfl, .lit rfl rfl (fun v hv => okB0_spec (allL_spec rfl v hv))⟩⟩, trivial⟩ rfl rfl))
    | (show OutK _ _ _ _; (exact out_forget [] ⟨_, _, _, DmgX.three ha hx10_ hxk_ hx3_ (dmg_nz (by assumption)) (dmg_s1 (dmg_k hxk_ (by assumption) ht) hsg_), rfl, rfl⟩ rfl (okB2_spec rfl) ⟨⟨⟨_, rfl, .lit (away_conc (bl_plain _) _).symm rfl (away_ok (bl_plain _) _)⟩⟩, ⟨⟨_, rfl, .lit rfl rfl (fun v hv => okB0_spec (allL_spec rfl v hv))⟩⟩, trivial⟩ rfl rfl))
    | (show OutK _ _ _ _; (exact out_forget [] ⟨_, _, _, DmgX.three ha hx10_ hxk_ hx3_ (dmg_nz (by assumption)) (dmg_s2 (dmg_k hxk_ (by assumption) ht)), rfl, rfl⟩ rfl (okB2_spec rfl) ⟨⟨⟨_, rfl, .lit (away_conc (bl_plain _) _).symm rfl (away_ok (bl_plain _) _)⟩⟩, ⟨⟨_, rfl, .lit rfl rfl (fun v hv => okB0_spec (allL_spec rfl v hv))⟩⟩, trivial⟩ rfl rfl))
    | (show OutK _ _ _ _; (exact out_forget [] ⟨_, _, _, DmgX.three ha hx10_ hxk_ hx3_ (dmg_nz (by assumption)) (dmg_s3 (dmg_k hxk_ (by assumption) ht) hsg_), rfl, rfl⟩ rfl (okB2_spec rfl) ⟨⟨⟨_, rfl, .lit (away_conc (bl_plain _) _).symm rfl (away_ok (bl_plain _) _)⟩⟩, ⟨⟨_, rfl, .lit rfl rfl (fun v hv => okB0_spec (allL_spec rfl v hv))⟩⟩, trivial⟩ rfl rfl))
    | (refine StoreK.mk rfl ?_; conv => whnf)
    | exact join_same
    | exact (by assumption : (_ : Bool) = (_ : Bool))
    | (refine br_true (by assumption) ?_; conv => whnf)
    | (refine br_false (by assumption) ?_; conv => whnf)
    | (refine br_not ?_; conv => whnf)
    | (refine br_code ?_; conv => whnf)
    | (with_reducible refine br_and ?_; conv => whnf)
    | (with_reducible refine br_or ?_; conv => whnf)
    | (refine br_eq2 ?_; conv => whnf)
    | (refine draw_auto (by decide +kernel) ?_; conv => whnf)
    | (refine draw_asg (by decide +kernel) ?_; conv => whnf)
    | (refine draw_st (by decide +kernel) ?_; conv => whnf)
    | (refine draw_call (by decide +kernel) ?_; conv => whnf)
    | (refine enter_same (loop_n 12 ?_); conv => whnf)
    | (refine next_same ?_; conv => whnf)
    | (refine mapK_row (by assumption) ?_; conv => whnf)
    | (refine mapK_plain (Plain.of rfl) ?_; conv => whnf)
    | (refine mapK_lit ?_; conv => whnf)
    | (refine br_split (fun _ => ?_) (fun _ => ?_) <;> conv => whnf)
    | exact (rfl : (_ : Value) = _)
    | (simp only [*]; exact (rfl : (_ : Value) = _))
    | (simp [*]; done))

set_option maxHeartbeats 1000000 in
theorem c_NextX_N  {o h m : Int}  (ha : SrcAt 0 o) : CallOK Tryz.prog n_spec_l01Next [.pointer (some ⟨0, 0, none⟩), ii m] [([.slice none 0 0, ii o, wv h], some t_spec_l01Source)] (fun v m_ => ∃ x o2 h2, NextX 0 o h m x o2 h2 ∧ v = ii x ∧ m_ = [([.slice none 0 0, ii o2, wv h2], some t_spec_l01Source)]) := by
  refine callOK_ofF good fn_spec_l01Next ?_
  conv => whnf
  all_goals (repeat' first
    | (refine br_false (b := decide (m = 0)) (decide_eq_false ?_) ?_; (focus (have := of_decide_eq_false (show decide (m < 1) = false by assumption); omega)); conv => whnf)
    | (refine br_in ha.lo (of_decide_eq_true (show decide (o < (n : Int)) = true by assumption)) ?_; conv => whnf)
    | (refine force_eq (take_bl (xs := zs) (i := o.toNat) rfl ?_ ?_) ?_; (focus (simp only [Nat.mul_one]; done)); (focus (have := ha.lo; have := of_decide_eq_true (show decide (o < (n : Int)) = true by assumption); omega)); conv => whnf)
    | (show OutK _ _ _ _; rename decide (m < 1) = true => q0_; (exact out_forget [] ⟨_, _, _, .zero (of_decide_eq_true q0_) ha, rfl, rfl⟩ rfl (okB2_spec rfl) ⟨⟨⟨_, rfl, .lit rfl rfl (fun v hv => okB0_spec (allL_spec rfl v hv))⟩⟩, trivial⟩ rfl rfl))
    | (show OutK _ _ _ _; rename decide (o < ((0 : Nat) : Int)) = false => q0_; (exact out_forget [] ⟨_, _, _, .far (of_decide_eq_false q0_) ha, rfl, rfl⟩ rfl (okB2_spec rfl) ⟨⟨⟨_, rfl, .lit rfl rfl (fun v hv => okB0_spec (allL_spec rfl v hv))⟩⟩, trivial⟩ rfl rfl))
    | exact absurd (of_decide_eq_true (show decide (o < ((0 : Nat) : Int)) = true by assumption)) (by have := ha.lo; omega)
    | (refine StoreK.mk rfl ?_; conv => whnf)
    | exact join_same
    | exact (by assumption : (_ : Bool) = (_ : Bool))
    | (refine br_true (by assumption) ?_; conv => whnf)
    | (refine br_false (by assumption) ?_; conv => whnf)
    | (refine br_not ?_; conv => whnf)
    | (refine br_code ?_; conv => whnf)
    | (with_reducible refine br_and ?_; conv => whnf)
    | (with_reducible refine br_or ?_; conv => whnf)
    | (refine br_eq2 ?_; conv => whnf)
    | (refine draw_auto (by decide +kernel) ?_; conv => whnf)
    | (refine draw_asg (by decide +kernel) ?_; conv => whnf)
    | (refine draw_st (by decide +kernel) ?_; conv => whnf)
    | (refine draw_call (by decide +kernel) ?_; conv => whnf)
    | (refine enter_same (loop_n 12 ?_); conv => whnf)
    | (refine next_same ?_; conv => whnf)
    | (refine mapK_row (by assumption) ?_; conv => whnf)
    | (refine mapK_plain (Plain.of rfl) ?_; conv => whnf)
    | (refine mapK_lit ?_; conv => whnf)
    | (refine br_split (fun _ => ?_) (fun _ => ?_) <;> conv => whnf)
    | exact (rfl : (_ : Value) = _)
    | (simp only [*]; exact (rfl : (_ : Value) = _))
    | (simp [*]; done))

set_option maxHeartbeats 4000000 in
theorem c_Dmg_N  {o h : Int} {t : ByteArray}  (ha : SrcAt 0 o) (ht : t.size < 4294967281) : CallOK Tryz.prog n_spec_l01Damage [.pointer (some ⟨0, 0, none⟩), .string t] [([.slice none 0 0, ii o, wv h], some t_spec_l01Source)] (fun v m_ => ∃ (t2 : ByteArray) (o2 h2 : Int), DmgX 0 o h t.size t2.size o2 h2 ∧ v = .string t2 ∧ m_ = [([.slice none 0 0, ii o2, wv h2], some t_spec_l01Source)]) := by
  refine callOK_ofF good fn_spec_l01Damage ?_
  conv => whnf
  all_goals (repeat' first
    | (refine draw_pt (.take 0 (.take 1 (.take 2 (.take 3 (.take 4 (.take 5 (.take 6 (.take 7 (.take 8 (.take 9 (.solo 10 .done))))))))))) (by decide +kernel) ?_; conv => whnf)
    | (refine draw_pt (.take 0 (.take 1 (.take 2 (.take 3 (.take 4 (.take 5 (.take 6 (.take 7 (.solo 8 .done))))))))) (by decide +kernel) ?_; conv => whnf)
    | (refine draw_pt (.take 0 (.take 1 (.take 2 (.take 3 (.take 4 (.take 5 (.take 6 (.take 7 (.take 8 (.solo 9 .done)))))))))) (by decide +kernel) ?_; conv => whnf)
    | (refine CallOK.useD (c_NextX_N (m := 10) (by assumption)) [0] rfl rfl rfl ⟨⟨⟨_, rfl, .lit rfl (fun _ h_ => h_) (fun v hv => okB0_spec (allL_spec rfl v hv))⟩⟩, trivial⟩ (fun v_ mem_ hR => ?_); obtain ⟨x10_, o_, h_, hx10_, rfl, rfl⟩ := hR; refine ⟨rfl, ii x10_, fun _ => rfl, ?_⟩; (conv => whnf); refine mapK_eval (cs' := [.slice none 0 0, ii o_, wv h_]) rfl ?_; conv => whnf)
    | (refine CallOK.useD (c_NextX_N (m := 3) hxk_.at_) [0] rfl rfl rfl ⟨⟨⟨_, rfl, .lit rfl (fun _ h_ => h_) (fun v hv => okB0_spec (allL_spec rfl v hv))⟩⟩, trivial⟩ (fun v_ mem_ hR => ?_); obtain ⟨x3_, o_, h_, hx3_, rfl, rfl⟩ := hR; refine ⟨rfl, ii x3_, fun _ => rfl, ?_⟩; (conv => whnf); refine mapK_eval (cs' := [.slice none 0 0, ii o_, wv h_]) rfl ?_; conv => whnf)
    | (refine CallOK.useD (c_NextX_N (m := (t.size : Int)) hx10_.at_) [0] rfl rfl rfl ⟨⟨⟨_, rfl, .lit rfl (fun _ h_ => h_) (fun v hv => okB0_spec (allL_spec rfl v hv))⟩⟩, trivial⟩ (fun v_ mem_ hR => ?_); obtain ⟨xk_, o_, h_, hxk_, rfl, rfl⟩ := hR; refine ⟨rfl, ii xk_, fun _ => rfl, ?_⟩; (conv => whnf); refine mapK_eval (cs' := [.slice none 0 0, ii o_, wv h_]) rfl ?_; conv => whnf)
    | (refine br_in (i := x10_) (n := 10) ?_ ?_ ?_; (focus (have := hx10_.bel (by omega); omega)); (focus (have := hx10_.bel (by omega); omega)); conv => whnf)
    | (obtain ⟨sg_, hsg_, es_⟩ := sign_take (i := x10_.toNat) (o := 0 + x10_.toNat * 1) (by omega) (by have := hx10_.bel (by omega); omega); refine force_eq es_ ?_; conv => whnf)
    | (refine br_true (dmg_c1 (dmg_k hxk_ (by assumption) ht)) ?_; conv => whnf)
    | (refine br_true (dmg_c2 (dmg_k hxk_ (by assumption) ht)) ?_; conv => whnf)
    | (refine AddS.mk (by simp only [ByteArray.size_append, ByteArray.size_extract]; omega) ?_; conv => whnf)
    | (show OutK _ _ _ _; (exact out_forget [] ⟨_, _, _, DmgX.one ha hx10_ (dmg_z (by assumption)) hsg_, rfl, rfl⟩ rfl (okB2_spec rfl) ⟨⟨⟨_, rfl, .lit rfl rfl (fun v hv => okB0_spec (allL_spec rfl v hv))⟩⟩, trivial⟩ rfl rfl))
    | (show OutK _ _ _ _; (exact out_forget [] ⟨_, _, _, DmgX.three ha hx10_ hxk_ hx3_ (dmg_nz (by assumption)) (dmg_s1 (dmg_k hxk_ (by assumption) ht) hsg_), rfl, rfl⟩ rfl (okB2_spec rfl) ⟨⟨⟨_, rfl, .lit rfl rfl (fun v hv => okB0_spec (allL_spec rfl v hv))⟩⟩, trivial⟩ rfl rfl))
    | (show OutK _ _ _ _; (exact out_forget [] ⟨_, _, _, DmgX.three ha hx10_ hxk_ hx3_ (dmg_nz (by assumption)) (dmg_s2 (dmg_k hxk_ (by assumption) ht)), rfl, rfl⟩ rfl (okB2_spec rfl) ⟨⟨⟨_, rfl, .lit rfl rfl (fun v hv => okB0_spec (allL_spec rfl v hv))⟩⟩, trivial⟩ rfl rfl))
    | (show OutK _ _ _ _; (exact out_forget [] ⟨_, _, _, DmgX.three ha hx10_ hxk_ hx3_ (dmg_nz (by assumption)) (dmg_s3 (dmg_k hxk_ (by assumption) ht) hsg_), rfl, rfl⟩ rfl (okB2_spec rfl) ⟨⟨⟨_, rfl, .lit rfl rfl (fun v hv => okB0_spec (allL_spec rfl v hv))⟩⟩, trivial⟩ rfl rfl))
    | (refine StoreK.mk rfl ?_; conv => whnf)
    | exact join_same
    | exact (by assumption : (_ : Bool) = (_ : Bool))
    | (refine br_true (by assumption) ?_; conv => whnf)
    | (refine br_false (by assumption) ?_; conv => whnf)
    | (refine br_not ?_; conv => whnf)
    | (refine br_code ?_; conv => whnf)
    | (with_reducible refine br_and ?_; conv => whnf)
    | (with_reducible refine br_or ?_; conv => whnf)
    | (refine br_eq2 ?_; conv => whnf)
    | (refine draw_auto (by decide +kernel) ?_; conv => whnf)
    | (refine draw_asg (by decide +kernel) ?_; conv => whnf)
    | (refine draw_st (by decide +kernel) ?_; conv => whnf)
    | (refine draw_call (by decide +kernel) ?_; conv => whnf)
    | (refine enter_same (loop_n 12 ?_); conv => whnf)
    | (refine next_same ?_; conv => whnf)
    | (refine mapK_row (by assumption) ?_; conv => whnf)
    | (refine mapK_plain (Plain.of rfl) ?_; conv => whnf)
    | (refine mapK_lit ?_; conv => whnf)
    | (refine br_split (fun _ => ?_) (fun _ => ?_) <;> conv => whnf)
    | exact (rfl : (_ : Value) = _)
    | (simp only [*]; exact (rfl : (_ : Value) = _))
    | (simp [*]; done))

end Go.Proofs.YtlkbfpklhncfbaaGreatDoor
end

section
/-
  Contracts of functions of the program (printed by a program of this work; Lean checks each).
  Conditions: as each contract states.
-/
namespace Go.Proofs.YtlkbfpklhncfbaaGreatDoor
open Go.Ev Go.RowKit
set_option maxRecDepth 100000
set_option linter.unusedVariables false
set_option linter.unusedSimpArgs false

attribute [local irreducible] gcdF isPtF ptxt ltxt badP u64add u64mul u64and u64shr zOf dmgMu

theorem c_SizeM_L {zs : List Int} {off n c : Nat} {o h : Int} (hz : n ≤ zs.length) (hb : ∀ z ∈ zs, IsByte z) (hn : n ≤ 4096) (ha : SrcAt n o) : CallOK Tryz.prog n_spec_l01Size [.pointer (some ⟨1, 0, none⟩)] [(away off (bl zs), none), ([.slice (some ⟨0, off, none⟩) n c, ii o, wv h], some t_spec_l01Source)] (fun v m_ => ∃ y o2 h2, y ∈ [3, 6, 12, 100, 1000, 1000000] ∧ SrcAt n o2 ∧ v = ii y ∧ m_ = [(away off (bl zs), none), ([.slice (some ⟨0, off, none⟩) n c, ii o2, wv h2], some t_spec_l01Source)]) := by
  refine callOK_ofF good fn_spec_l01Size ?_
  conv => whnf
  all_goals (repeat' first
    | (refine CallOK.useD (c_PickM_L (xs := [3, 6, 12, 100, 1000, 1000000]) hz hb hn (by assumption) (by decide) (by decide)) [0, 1, 2] rfl rfl rfl ⟨⟨⟨_, rfl, .lit (away_conc (bl_plain _) _).symm (fun _ h_ => by cases h_) (away_ok (bl_plain _) _)⟩⟩, ⟨⟨_, rfl, .lit rfl (fun _ h_ => h_) (fun v hv => okB0_spec (allL_spec rfl v hv))⟩⟩, ⟨⟨_, rfl, .plain rfl (fun _ h_ => by cases h_) (il_plain _)⟩⟩, trivial⟩ (fun v_ mem_ hR => ?_); obtain ⟨y_, o_, h_, hy_, ha_, rfl, rfl⟩ := hR; refine ⟨rfl, ii y_, fun _ => rfl, ?_⟩; (conv => whnf); refine mapK_eval (cs' := [.slice (some ⟨0, off, none⟩) n c, ii o_, wv h_]) rfl ?_; conv => whnf)
    | (show OutK _ _ _ _; (exact out_forget [] ⟨_, _, _, hy_, ha_, rfl, rfl⟩ rfl (okB2_spec rfl) ⟨⟨⟨_, rfl, .lit (away_conc (bl_plain _) _).symm rfl (away_ok (bl_plain _) _)⟩⟩, ⟨⟨_, rfl, .lit rfl rfl (fun v hv => okB0_spec (allL_spec rfl v hv))⟩⟩, trivial⟩ rfl rfl))
    | (refine StoreK.mk rfl ?_; conv => whnf)
    | exact join_same
    | exact (by assumption : (_ : Bool) = (_ : Bool))
    | (refine br_true (by assumption) ?_; conv => whnf)
    | (refine br_false (by assumption) ?_; conv => whnf)
    | (refine br_not ?_; conv => whnf)
    | (refine br_code ?_; conv => whnf)
    | (with_reducible refine br_and ?_; conv => whnf)
    | (with_reducible refine br_or ?_; conv => whnf)
    | (refine br_eq2 ?_; conv => whnf)
    | (refine draw_auto (by decide +kernel) ?_; conv => whnf)
    | (refine draw_asg (by decide +kernel) ?_; conv => whnf)
    | (refine draw_st (by decide +kernel) ?_; conv => whnf)
    | (refine draw_call (by decide +kernel) ?_; conv => whnf)
    | (refine enter_same (loop_n 12 ?_); conv => whnf)
    | (refine next_same ?_; conv => whnf)
    | (refine mapK_row (by assumption) ?_; conv => whnf)
    | (refine mapK_plain (Plain.of rfl) ?_; conv => whnf)
    | (refine mapK_lit ?_; conv => whnf)
    | (refine br_split (fun _ => ?_) (fun _ => ?_) <;> conv => whnf)
    | exact (rfl : (_ : Value) = _)
    | (simp only [*]; exact (rfl : (_ : Value) = _))
    | (simp [*]; done))

set_option maxHeartbeats 4000000 in
theorem c_DrPP_L {zs : List Int} {off n c : Nat} (hz : n ≤ zs.length) (hb : ∀ z ∈ zs, IsByte z) (hn : n ≤ 4096) : CallOK Tryz.prog n_spec_DrawParsePoint [.slice (some ⟨0, off, none⟩) n c] [(away off (bl zs), none)] (fun v m_ => ∃ z : ByteArray, z.size < 4294967281 ∧ v = .string z ∧ m_ = [(away off (bl zs), none)]) := by
  refine callOK_ofF good fn_spec_DrawParsePoint ?_
  conv => whnf
  all_goals (repeat' first
    | (refine CallOK.useR (c_From_L hz hb hn) [0] rfl rfl rfl ⟨⟨⟨_, rfl, .lit (away_conc (bl_plain _) _).symm (fun _ h_ => by cases h_) (away_ok (bl_plain _) _)⟩⟩, trivial⟩ (fun v_ mem_ hR => ?_); obtain ⟨h_, rfl, rfl⟩ := hR; have ha_ := SrcAt.zero n; refine ⟨rfl, ?_⟩; (conv => whnf); refine mapK_eval (cs' := [.slice (some ⟨0, off, none⟩) n c, ii 0, wv h_]) rfl ?_; conv => whnf)
    | (refine CallOK.useD (c_SizeM_L hz hb hn (by assumption)) [0, 1] rfl rfl rfl ⟨⟨⟨_, rfl, .lit (away_conc (bl_plain _) _).symm (fun _ h_ => by cases h_) (away_ok (bl_plain _) _)⟩⟩, ⟨⟨_, rfl, .lit rfl (fun _ h_ => h_) (fun v hv => okB0_spec (allL_spec rfl v hv))⟩⟩, trivial⟩ (fun v_ mem_ hR => ?_); obtain ⟨y_, o_, h_, hy_, ha_, rfl, rfl⟩ := hR; refine ⟨rfl, ii y_, fun _ => rfl, ?_⟩; (conv => whnf); refine mapK_eval (cs' := [.slice (some ⟨0, off, none⟩) n c, ii o_, wv h_]) rfl ?_; conv => whnf)
    | (refine CallOK.useD (c_DrawPtB_L hz hb hn (by assumption)) [0, 1] rfl rfl rfl ⟨⟨⟨_, rfl, .lit (away_conc (bl_plain _) _).symm (fun _ h_ => by cases h_) (away_ok (bl_plain _) _)⟩⟩, ⟨⟨_, rfl, .lit rfl (fun _ h_ => h_) (fun v hv => okB0_spec (allL_spec rfl v hv))⟩⟩, trivial⟩ (fun v_ mem_ hR => ?_); obtain ⟨px_, py_, o_, h_, hp_, ha_, rfl, rfl⟩ := hR; refine ⟨rfl, pt px_ py_, fun _ => rfl, ?_⟩; (conv => whnf); refine mapK_eval (cs' := [.slice (some ⟨0, off, none⟩) n c, ii o_, wv h_]) rfl ?_; conv => whnf)
    | (refine (c_spec_l01Text (a := px_) (b := py_) (sm_pt (hp_ (size6 hy_).1 (size6 hy_).2))).call ?_; conv => whnf)
    | (refine (c_spec_l01Text (a := px_) (b := py_) (sm_pt (hp_ (size6 hy_).1 (size6 hy_).2))).quiet ?_; conv => whnf)
    | (refine enter_forget [1] (loop_rec (fun (s : Int × Int × Nat × Nat × ByteArray) => match s with | (o2, h2, z, m, t) => [.slice (some ⟨0, off, none⟩) n c, wild, wild, .pointer (some ⟨1, 0, none⟩), .string t, wild, wild, wild, wild, wild, wild, wild, wild, wild, wild, wild, wild, wild, wild]) (fun (s : Int × Int × Nat × Nat × ByteArray) => match s with | (o2, h2, z, m, t) => [(away off (bl zs), none), ([.slice (some ⟨0, off, none⟩) n c, ii o2, wv h2], some t_spec_l01Source)]) (fun (s : Int × Int × Nat × Nat × ByteArray) => match s with | (o2, h2, z, m, t) => dmgMu n o2 m) (fun (s : Int × Int × Nat × Nat × ByteArray) => match s with | (o2, h2, z, m, t) => DmgI n o2 h2 z m t) (o_, h_, zOf h_, 0, ⟨(ptxt (px_, py_)).toArray⟩) (DmgI.start ha_ (by rw [bytes_size]; have := ptxt_len (sm_pt (hp_ (size6 hy_).1 (size6 hy_).2)); omega)) ?_) (tmR_rfl rfl rfl) ⟨⟨⟨_, rfl, .lit (away_conc (bl_plain _) _).symm rfl (away_ok (bl_plain _) _)⟩⟩, ⟨⟨_, rfl, .lit rfl rfl (fun v hv => okB0_spec (allL_spec rfl v hv))⟩⟩, trivial⟩ rfl rfl; rintro fuel_ ⟨o2, h2, z, m, t⟩ hI IH; replace hI : DmgI n o2 h2 z m t := hI; conv => whnf)
    | exact next_forget [1] (IH (_, _, _, _, _) (by exact hI.next hx3_ (by assumption) hd_) (by exact hI.mu hx3_ (by assumption) hd_)) (tmR_rfl rfl rfl) ⟨⟨⟨_, rfl, .lit (away_conc (bl_plain _) _).symm rfl (away_ok (bl_plain _) _)⟩⟩, ⟨⟨_, rfl, .lit rfl rfl (fun v hv => okB0_spec (allL_spec rfl v hv))⟩⟩, trivial⟩ rfl rfl
    | (refine CallOK.useD (c_NextX_L (m := 3) hz hb hn hI.at_) [0, 1] rfl rfl rfl ⟨⟨⟨_, rfl, .lit (away_conc (bl_plain _) _).symm (fun _ h_ => by cases h_) (away_ok (bl_plain _) _)⟩⟩, ⟨⟨_, rfl, .lit rfl (fun _ h_ => h_) (fun v hv => okB0_spec (allL_spec rfl v hv))⟩⟩, trivial⟩ (fun v_ mem_ hR => ?_); obtain ⟨x3_, o_, h_, hx3_, rfl, rfl⟩ := hR; refine ⟨rfl, ii x3_, fun _ => rfl, ?_⟩; (conv => whnf); refine mapK_eval (cs' := [.slice (some ⟨0, off, none⟩) n c, ii o_, wv h_]) rfl ?_; conv => whnf)
    | (refine CallOK.useD (c_Dmg_L hz hb hn hx3_.at_ (hI.small hn)) [0, 1] rfl rfl rfl ⟨⟨⟨_, rfl, .lit (away_conc (bl_plain _) _).symm (fun _ h_ => by cases h_) (away_ok (bl_plain _) _)⟩⟩, ⟨⟨_, rfl, .lit rfl (fun _ h_ => h_) (fun v hv => okB0_spec (allL_spec rfl v hv))⟩⟩, trivial⟩ (fun v_ mem_ hR => ?_); obtain ⟨t2_, o_, h_, hd_, rfl, rfl⟩ := hR; refine ⟨rfl, .string t2_, fun _ => rfl, ?_⟩; (conv => whnf); refine mapK_eval (cs' := [.slice (some ⟨0, off, none⟩) n c, ii o_, wv h_]) rfl ?_; conv => whnf)
    | (show OutK _ _ _ _; exact out_forget [] ⟨_, hI.small hn, rfl, rfl⟩ rfl (okB2_spec rfl) ⟨⟨⟨_, rfl, .lit (away_conc (bl_plain _) _).symm rfl (away_ok (bl_plain _) _)⟩⟩, trivial⟩ rfl rfl)
    | (refine StoreK.mk rfl ?_; conv => whnf)
    | exact join_same
    | exact (by assumption : (_ : Bool) = (_ : Bool))
    | (refine br_true (by assumption) ?_; conv => whnf)
    | (refine br_false (by assumption) ?_; conv => whnf)
    | (refine br_not ?_; conv => whnf)
    | (refine br_code ?_; conv => whnf)
    | (with_reducible refine br_and ?_; conv => whnf)
    | (with_reducible refine br_or ?_; conv => whnf)
    | (refine br_eq2 ?_; conv => whnf)
    | (refine (c_spec_l01Text ?_).call ?_ <;> conv => whnf)
    | (refine (c_spec_l01Text ?_).quiet ?_ <;> conv => whnf)
    | (refine draw_auto (by decide +kernel) ?_; conv => whnf)
    | (refine draw_asg (by decide +kernel) ?_; conv => whnf)
    | (refine draw_st (by decide +kernel) ?_; conv => whnf)
    | (refine draw_call (by decide +kernel) ?_; conv => whnf)
    | (refine next_same ?_; conv => whnf)
    | (refine mapK_row (by assumption) ?_; conv => whnf)
    | (refine mapK_plain (Plain.of rfl) ?_; conv => whnf)
    | (refine mapK_lit ?_; conv => whnf)
    | (refine br_split (fun _ => ?_) (fun _ => ?_) <;> conv => whnf)
    | exact (rfl : (_ : Value) = _)
    | (simp only [*]; exact (rfl : (_ : Value) = _))
    | (simp [*]; done))

set_option maxHeartbeats 4000000 in
theorem c_DrPL_L {zs : List Int} {off n c : Nat} (hz : n ≤ zs.length) (hb : ∀ z ∈ zs, IsByte z) (hn : n ≤ 4096) : CallOK Tryz.prog n_spec_DrawParsePoints [.slice (some ⟨0, off, none⟩) n c] [(away off (bl zs), none)] (fun v m_ => ∃ z : ByteArray, z.size < 4294967281 ∧ v = .string z ∧ m_ = [(away off (bl zs), none)]) := by
  refine callOK_ofF good fn_spec_DrawParsePoints ?_
  conv => whnf
  all_goals (repeat' first
    | (refine CallOK.useR (c_From_L hz hb hn) [0] rfl rfl rfl ⟨⟨⟨_, rfl, .lit (away_conc (bl_plain _) _).symm (fun _ h_ => by cases h_) (away_ok (bl_plain _) _)⟩⟩, trivial⟩ (fun v_ mem_ hR => ?_); obtain ⟨h_, rfl, rfl⟩ := hR; have ha_ := SrcAt.zero n; refine ⟨rfl, ?_⟩; (conv => whnf); refine mapK_eval (cs' := [.slice (some ⟨0, off, none⟩) n c, ii 0, wv h_]) rfl ?_; conv => whnf)
    | (refine CallOK.useR (c_DrLs_L hz hb hn (by assumption) (by decide) (by decide)) [0, 1] rfl rfl rfl ⟨⟨⟨_, rfl, .lit (away_conc (bl_plain _) _).symm (fun _ h_ => by cases h_) (away_ok (bl_plain _) _)⟩⟩, ⟨⟨_, rfl, .lit rfl (fun _ h_ => h_) (fun v hv => okB0_spec (allL_spec rfl v hv))⟩⟩, trivial⟩ (fun v_ mem_ hR => ?_); obtain ⟨Q_, S_, q_, e_, o_, h_, hrow_, hq6_, hbad_, ha_, rfl, rfl⟩ := hR; refine ⟨rfl, ?_⟩; (conv => whnf))
    | (refine CallOK.useR (c_ListText hrow_ (by omega) hbad_ (by omega)) [_] rfl rfl rfl ⟨⟨⟨_, rfl, .plain rfl (fun _ h_ => by cases h_) (Row.all hrow_)⟩⟩, trivial⟩ (fun v_ mem_ hR => ?_); obtain ⟨rfl, rfl⟩ := hR; refine ⟨rfl, ?_⟩; conv => whnf)
    | (refine enter_forget [1] (loop_rec (fun (s : Int × Int × Nat × Nat × ByteArray) => match s with | (o2, h2, z, m, t) => [.slice (some ⟨0, off, none⟩) n c, wild, wild, .pointer (some ⟨1, 0, none⟩), .string t, wild, wild, wild, wild, wild, wild, wild, wild, wild, wild, wild, wild]) (fun (s : Int × Int × Nat × Nat × ByteArray) => match s with | (o2, h2, z, m, t) => [(away off (bl zs), none), ([.slice (some ⟨0, off, none⟩) n c, ii o2, wv h2], some t_spec_l01Source)]) (fun (s : Int × Int × Nat × Nat × ByteArray) => match s with | (o2, h2, z, m, t) => dmgMu n o2 m) (fun (s : Int × Int × Nat × Nat × ByteArray) => match s with | (o2, h2, z, m, t) => DmgI n o2 h2 z m t) (o_, h_, zOf h_, 0, ⟨(ltxt Q_).toArray⟩) (DmgI.start ha_ (by rw [bytes_size]; have := ltxt_len hbad_; have := row_pl hrow_; omega)) ?_) (tmR_rfl rfl rfl) ⟨⟨⟨_, rfl, .lit (away_conc (bl_plain _) _).symm rfl (away_ok (bl_plain _) _)⟩⟩, ⟨⟨_, rfl, .lit rfl rfl (fun v hv => okB0_spec (allL_spec rfl v hv))⟩⟩, trivial⟩ rfl rfl; rintro fuel_ ⟨o2, h2, z, m, t⟩ hI IH; replace hI : DmgI n o2 h2 z m t := hI; conv => whnf)
    | exact next_forget [1] (IH (_, _, _, _, _) (by exact hI.next hx3_ (by assumption) hd_) (by exact hI.mu hx3_ (by assumption) hd_)) (tmR_rfl rfl rfl) ⟨⟨⟨_, rfl, .lit (away_conc (bl_plain _) _).symm rfl (away_ok (bl_plain _) _)⟩⟩, ⟨⟨_, rfl, .lit rfl rfl (fun v hv => okB0_spec (allL_spec rfl v hv))⟩⟩, trivial⟩ rfl rfl
    | (refine CallOK.useD (c_NextX_L (m := 3) hz hb hn hI.at_) [0, 1] rfl rfl rfl ⟨⟨⟨_, rfl, .lit (away_conc (bl_plain _) _).symm (fun _ h_ => by cases h_) (away_ok (bl_plain _) _)⟩⟩, ⟨⟨_, rfl, .lit rfl (fun _ h_ => h_) (fun v hv => okB0_spec (allL_spec rfl v hv))⟩⟩, trivial⟩ (fun v_ mem_ hR => ?_); obtain ⟨x3_, o_, h_, hx3_, rfl, rfl⟩ := hR; refine ⟨rfl, ii x3_, fun _ => rfl, ?_⟩; (conv => whnf); refine mapK_eval (cs' := [.slice (some ⟨0, off, none⟩) n c, ii o_, wv h_]) rfl ?_; conv => whnf)
    | (refine CallOK.useD (c_Dmg_L hz hb hn hx3_.at_ (hI.small hn)) [0, 1] rfl rfl rfl ⟨⟨⟨_, rfl, .lit (away_conc (bl_plain _) _).symm (fun _ h_ => by cases h_) (away_ok (bl_plain _) _)⟩⟩, ⟨⟨_, rfl, .lit rfl (fun _ h_ => h_) (fun v hv => okB0_spec (allL_spec rfl v hv))⟩⟩, trivial⟩ (fun v_ mem_ hR => ?_); obtain ⟨t2_, o_, h_, hd_, rfl, rfl⟩ := hR; refine ⟨rfl, .string t2_, fun _ => rfl, ?_⟩; (conv => whnf); refine mapK_eval (cs' := [.slice (some ⟨0, off, none⟩) n c, ii o_, wv h_]) rfl ?_; conv => whnf)
    | (show OutK _ _ _ _; exact out_forget [] ⟨_, hI.small hn, rfl, rfl⟩ rfl (okB2_spec rfl) ⟨⟨⟨_, rfl, .lit (away_conc (bl_plain _) _).symm rfl (away_ok (bl_plain _) _)⟩⟩, trivial⟩ rfl rfl)
    | (refine StoreK.mk rfl ?_; conv => whnf)
    | exact join_same
    | exact (by assumption : (_ : Bool) = (_ : Bool))
    | (refine br_true (by assumption) ?_; conv => whnf)
    | (refine br_false (by assumption) ?_; conv => whnf)
    | (refine br_not ?_; conv => whnf)
    | (refine br_code ?_; conv => whnf)
    | (with_reducible refine br_and ?_; conv => whnf)
    | (with_reducible refine br_or ?_; conv => whnf)
    | (refine br_eq2 ?_; conv => whnf)
    | (refine CallOK.useR (c_ListText (by first | assumption | exact Row.lit rfl rfl | omega) (by first | assumption | exact Row.lit rfl rfl | omega) (by first | assumption | exact Row.lit rfl rfl | omega) (by first | assumption | exact Row.lit rfl rfl | omega)) [_] rfl rfl rfl ⟨⟨⟨_, rfl, .plain rfl (fun _ h_ => by first | exact h_ | cases h_) (by first | exact Plain.of rfl | exact Row.all (by assumption))⟩⟩, trivial⟩ (fun v_ mem_ hR => ?_); obtain ⟨rfl, rfl⟩ := hR; refine ⟨rfl, ?_⟩; conv => whnf)
    | (refine draw_auto (by decide +kernel) ?_; conv => whnf)
    | (refine draw_asg (by decide +kernel) ?_; conv => whnf)
    | (refine draw_st (by decide +kernel) ?_; conv => whnf)
    | (refine draw_call (by decide +kernel) ?_; conv => whnf)
    | (refine next_same ?_; conv => whnf)
    | (refine mapK_row (by assumption) ?_; conv => whnf)
    | (refine mapK_plain (Plain.of rfl) ?_; conv => whnf)
    | (refine mapK_lit ?_; conv => whnf)
    | (refine br_split (fun _ => ?_) (fun _ => ?_) <;> conv => whnf)
    | exact (rfl : (_ : Value) = _)
    | (simp only [*]; exact (rfl : (_ : Value) = _))
    | (simp [*]; done))

theorem c_SizeM_N  {o h : Int}  (ha : SrcAt 0 o) : CallOK Tryz.prog n_spec_l01Size [.pointer (some ⟨0, 0, none⟩)] [([.slice none 0 0, ii o, wv h], some t_spec_l01Source)] (fun v m_ => ∃ y o2 h2, y ∈ [3, 6, 12, 100, 1000, 1000000] ∧ SrcAt 0 o2 ∧ v = ii y ∧ m_ = [([.slice none 0 0, ii o2, wv h2], some t_spec_l01Source)]) := by
  refine callOK_ofF good fn_spec_l01Size ?_
  conv => whnf
  all_goals (repeat' first
    | (refine CallOK.useD (c_PickM_N (xs := [3, 6, 12, 100, 1000, 1000000]) (by assumption) (by decide) (by decide)) [0, 1] rfl rfl rfl ⟨⟨⟨_, rfl, .lit rfl (fun _ h_ => h_) (fun v hv => okB0_spec (allL_spec rfl v hv))⟩⟩, ⟨⟨_, rfl, .plain rfl (fun _ h_ => by cases h_) (il_plain _)⟩⟩, trivial⟩ (fun v_ mem_ hR => ?_); obtain ⟨y_, o_, h_, hy_, ha_, rfl, rfl⟩ := hR; refine ⟨rfl, ii y_, fun _ => rfl, ?_⟩; (conv => whnf); refine mapK_eval (cs' := [.slice none 0 0, ii o_, wv h_]) rfl ?_; conv => whnf)
    | (show OutK _ _ _ _; (exact out_forget [] ⟨_, _, _, hy_, ha_, rfl, rfl⟩ rfl (okB2_spec rfl) ⟨⟨⟨_, rfl, .lit rfl rfl (fun v hv => okB0_spec (allL_spec rfl v hv))⟩⟩, trivial⟩ rfl rfl))
    | (refine StoreK.mk rfl ?_; conv => whnf)
    | exact join_same
    | exact (by assumption : (_ : Bool) = (_ : Bool))
    | (refine br_true (by assumption) ?_; conv => whnf)
    | (refine br_false (by assumption) ?_; conv => whnf)
    | (refine br_not ?_; conv => whnf)
    | (refine br_code ?_; conv => whnf)
    | (with_reducible refine br_and ?_; conv => whnf)
    | (with_reducible refine br_or ?_; conv => whnf)
    | (refine br_eq2 ?_; conv => whnf)
    | (refine draw_auto (by decide +kernel) ?_; conv => whnf)
    | (refine draw_asg (by decide +kernel) ?_; conv => whnf)
    | (refine draw_st (by decide +kernel) ?_; conv => whnf)
    | (refine draw_call (by decide +kernel) ?_; conv => whnf)
    | (refine enter_same (loop_n 12 ?_); conv => whnf)
    | (refine next_same ?_; conv => whnf)
    | (refine mapK_row (by assumption) ?_; conv => whnf)
    | (refine mapK_plain (Plain.of rfl) ?_; conv => whnf)
    | (refine mapK_lit ?_; conv => whnf)
    | (refine br_split (fun _ => ?_) (fun _ => ?_) <;> conv => whnf)
    | exact (rfl : (_ : Value) = _)
    | (simp only [*]; exact (rfl : (_ : Value) = _))
    | (simp [*]; done))

set_option maxHeartbeats 4000000 in
theorem c_DrPP_N   : CallOK Tryz.prog n_spec_DrawParsePoint [.slice none 0 0] [] (fun v m_ => ∃ z : ByteArray, z.size < 4294967281 ∧ v = .string z ∧ m_ = []) := by
  refine callOK_ofF good fn_spec_DrawParsePoint ?_
  conv => whnf
  all_goals (repeat' first
    | (refine CallOK.useR (c_From_N) [] rfl rfl rfl trivial (fun v_ mem_ hR => ?_); obtain ⟨h_, rfl, rfl⟩ := hR; have ha_ := SrcAt.zero 0; refine ⟨rfl, ?_⟩; (conv => whnf); refine mapK_eval (cs' := [.slice none 0 0, ii 0, wv h_]) rfl ?_; conv => whnf)
    | (refine CallOK.useD (c_SizeM_N (by assumption)) [0] rfl rfl rfl ⟨⟨⟨_, rfl, .lit rfl (fun _ h_ => h_) (fun v hv => okB0_spec (allL_spec rfl v hv))⟩⟩, trivial⟩ (fun v_ mem_ hR => ?_); obtain ⟨y_, o_, h_, hy_, ha_, rfl, rfl⟩ := hR; refine ⟨rfl, ii y_, fun _ => rfl, ?_⟩; (conv => whnf); refine mapK_eval (cs' := [.slice none 0 0, ii o_, wv h_]) rfl ?_; conv => whnf)
    | (refine CallOK.useD (c_DrawPtB_N (by assumption)) [0] rfl rfl rfl ⟨⟨⟨_, rfl, .lit rfl (fun _ h_ => h_) (fun v hv => okB0_spec (allL_spec rfl v hv))⟩⟩, trivial⟩ (fun v_ mem_ hR => ?_); obtain ⟨px_, py_, o_, h_, hp_, ha_, rfl, rfl⟩ := hR; refine ⟨rfl, pt px_ py_, fun _ => rfl, ?_⟩; (conv => whnf); refine mapK_eval (cs' := [.slice none 0 0, ii o_, wv h_]) rfl ?_; conv => whnf)
    | (refine (c_spec_l01Text (a := px_) (b := py_) (sm_pt (hp_ (size6 hy_).1 (size6 hy_).2))).call ?_; conv => whnf)
    | (refine (c_spec_l01Text (a := px_) (b := py_) (sm_pt (hp_ (size6 hy_).1 (size6 hy_).2))).quiet ?_; conv => whnf)
    | (refine enter_forget [0] (loop_rec (fun (s : Int × Int × Nat × Nat × ByteArray) => match s with | (o2, h2, z, m, t) => [.slice none 0 0, wild, wild, .pointer (some ⟨0, 0, none⟩), .string t, wild, wild, wild, wild, wild, wild, wild, wild, wild, wild, wild, wild, wild, wild]) (fun (s : Int × Int × Nat × Nat × ByteArray) => match s with | (o2, h2, z, m, t) => [([.slice none 0 0, ii o2, wv h2], some t_spec_l01Source)]) (fun (s : Int × Int × Nat × Nat × ByteArray) => match s with | (o2, h2, z, m, t) => dmgMu 0 o2 m) (fun (s : Int × Int × Nat × Nat × ByteArray) => match s with | (o2, h2, z, m, t) => DmgI 0 o2 h2 z m t) (o_, h_, zOf h_, 0, ⟨(ptxt (px_, py_)).toArray⟩) (DmgI.start ha_ (by rw [bytes_size]; have := ptxt_len (sm_pt (hp_ (size6 hy_).1 (size6 hy_).2)); omega)) ?_) (tmR_rfl rfl rfl) ⟨⟨⟨_, rfl, .lit rfl rfl (fun v hv => okB0_spec (allL_spec rfl v hv))⟩⟩, trivial⟩ rfl rfl; rintro fuel_ ⟨o2, h2, z, m, t⟩ hI IH; replace hI : DmgI 0 o2 h2 z m t := hI; conv => whnf)
    | exact next_forget [0] (IH (_, _, _, _, _) (by exact hI.next hx3_ (by assumption) hd_) (by exact hI.mu hx3_ (by assumption) hd_)) (tmR_rfl rfl rfl) ⟨⟨⟨_, rfl, .lit rfl rfl (fun v hv => okB0_spec (allL_spec rfl v hv))⟩⟩, trivial⟩ rfl rfl
    | (refine CallOK.useD (c_NextX_N (m := 3) hI.at_) [0] rfl rfl rfl ⟨⟨⟨_, rfl, .lit rfl (fun _ h_ => h_) (fun v hv => okB0_spec (allL_spec rfl v hv))⟩⟩, trivial⟩ (fun v_ mem_ hR => ?_); obtain ⟨x3_, o_, h_, hx3_, rfl, rfl⟩ := hR; refine ⟨rfl, ii x3_, fun _ => rfl, ?_⟩; (conv => whnf); refine mapK_eval (cs' := [.slice none 0 0, ii o_, wv h_]) rfl ?_; conv => whnf)
    | (refine CallOK.useD (c_Dmg_N hx3_.at_ (hI.small (by omega))) [0] rfl rfl rfl ⟨⟨⟨_, rfl, .lit rfl (fun _ h_ => h_) (fun v hv => okB0_spec (allL_spec rfl v hv))⟩⟩, trivial⟩ (fun v_ mem_ hR => ?_); obtain ⟨t2_, o_, h_, hd_, rfl, rfl⟩ := hR; refine ⟨rfl, .string t2_, fun _ => rfl, ?_⟩; (conv => whnf); refine mapK_eval (cs' := [.slice none 0 0, ii o_, wv h_]) rfl ?_; conv => whnf)
    | (show OutK _ _ _ _; exact out_forget [] ⟨_, hI.small (by omega), rfl, rfl⟩ rfl (okB2_spec rfl) trivial rfl rfl)
    | (refine StoreK.mk rfl ?_; conv => whnf)
    | exact join_same
    | exact (by assumption : (_ : Bool) = (_ : Bool))
    | (refine br_true (by assumption) ?_; conv => whnf)
    | (refine br_false (by assumption) ?_; conv => whnf)
    | (refine br_not ?_; conv => whnf)
    | (refine br_code ?_; conv => whnf)
    | (with_reducible refine br_and ?_; conv => whnf)
    | (with_reducible refine br_or ?_; conv => whnf)
    | (refine br_eq2 ?_; conv => whnf)
    | (refine (c_spec_l01Text ?_).call ?_ <;> conv => whnf)
    | (refine (c_spec_l01Text ?_).quiet ?_ <;> conv => whnf)
    | (refine draw_auto (by decide +kernel) ?_; conv => whnf)
    | (refine draw_asg (by decide +kernel) ?_; conv => whnf)
    | (refine draw_st (by decide +kernel) ?_; conv => whnf)
    | (refine draw_call (by decide +kernel) ?_; conv => whnf)
    | (refine next_same ?_; conv => whnf)
    | (refine mapK_row (by assumption) ?_; conv => whnf)
    | (refine mapK_plain (Plain.of rfl) ?_; conv => whnf)
    | (refine mapK_lit ?_; conv => whnf)
    | (refine br_split (fun _ => ?_) (fun _ => ?_) <;> conv => whnf)
    | exact (rfl : (_ : Value) = _)
    | (simp only [*]; exact (rfl : (_ : Value) = _))
    | (simp [*]; done))

set_option maxHeartbeats 4000000 in
theorem c_DrPL_N   : CallOK Tryz.prog n_spec_DrawParsePoints [.slice none 0 0] [] (fun v m_ => ∃ z : ByteArray, z.size < 4294967281 ∧ v = .string z ∧ m_ = []) := by
  refine callOK_ofF good fn_spec_DrawParsePoints ?_
  conv => whnf
  all_goals (repeat' first
    | (refine CallOK.useR (c_From_N) [] rfl rfl rfl trivial (fun v_ mem_ hR => ?_); obtain ⟨h_, rfl, rfl⟩ := hR; have ha_ := SrcAt.zero 0; refine ⟨rfl, ?_⟩; (conv => whnf); refine mapK_eval (cs' := [.slice none 0 0, ii 0, wv h_]) rfl ?_; conv => whnf)
    | (refine CallOK.useR (c_DrLs_N (by assumption) (by decide) (by decide)) [0] rfl rfl rfl ⟨⟨⟨_, rfl, .lit rfl (fun _ h_ => h_) (fun v hv => okB0_spec (allL_spec rfl v hv))⟩⟩, trivial⟩ (fun v_ mem_ hR => ?_); obtain ⟨Q_, S_, q_, e_, o_, h_, hrow_, hq6_, hbad_, ha_, rfl, rfl⟩ := hR; refine ⟨rfl, ?_⟩; (conv => whnf))
    | (refine CallOK.useR (c_ListText hrow_ (by omega) hbad_ (by omega)) [_] rfl rfl rfl ⟨⟨⟨_, rfl, .plain rfl (fun _ h_ => by cases h_) (Row.all hrow_)⟩⟩, trivial⟩ (fun v_ mem_ hR => ?_); obtain ⟨rfl, rfl⟩ := hR; refine ⟨rfl, ?_⟩; conv => whnf)
    | (refine enter_forget [0] (loop_rec (fun (s : Int × Int × Nat × Nat × ByteArray) => match s with | (o2, h2, z, m, t) => [.slice none 0 0, wild, wild, .pointer (some ⟨0, 0, none⟩), .string t, wild, wild, wild, wild, wild, wild, wild, wild, wild, wild, wild, wild]) (fun (s : Int × Int × Nat × Nat × ByteArray) => match s with | (o2, h2, z, m, t) => [([.slice none 0 0, ii o2, wv h2], some t_spec_l01Source)]) (fun (s : Int × Int × Nat × Nat × ByteArray) => match s with | (o2, h2, z, m, t) => dmgMu 0 o2 m) (fun (s : Int × Int × Nat × Nat × ByteArray) => match s with | (o2, h2, z, m, t) => DmgI 0 o2 h2 z m t) (o_, h_, zOf h_, 0, ⟨(ltxt Q_).toArray⟩) (DmgI.start ha_ (by rw [bytes_size]; have := ltxt_len hbad_; have := row_pl hrow_; omega)) ?_) (tmR_rfl rfl rfl) ⟨⟨⟨_, rfl, .lit rfl rfl (fun v hv => okB0_spec (allL_spec rfl v hv))⟩⟩, trivial⟩ rfl rfl; rintro fuel_ ⟨o2, h2, z, m, t⟩ hI IH; replace hI : DmgI 0 o2 h2 z m t := hI; conv => whnf)
    | exact next_forget [0] (IH (_, _, _, _, _) (by exact hI.next hx3_ (by assumption) hd_) (by exact hI.mu hx3_ (by assumption) hd_)) (tmR_rfl rfl rfl) ⟨⟨⟨_, rfl, .lit rfl rfl (fun v hv => okB0_spec (allL_spec rfl v hv))⟩⟩, trivial⟩ rfl rfl
    | (refine CallOK.useD (c_NextX_N (m := 3) hI.at_) [0] rfl rfl rfl ⟨⟨⟨_, rfl, .lit rfl (fun _ h_ => h_) (fun v hv => okB0_spec (allL_spec rfl v hv))⟩⟩, trivial⟩ (fun v_ mem_ hR => ?_); obtain ⟨x3_, o_, h_, hx3_, rfl, rfl⟩ := hR; refine ⟨rfl, ii x3_, fun _ => rfl, ?_⟩; (conv => whnf); refine mapK_eval (cs' := [.slice none 0 0, ii o_, wv h_]) rfl ?_; conv => whnf)
    | (refine CallOK.useD (c_Dmg_N hx3_.at_ (hI.small (by omega))) [0] rfl rfl rfl ⟨⟨⟨_, rfl, .lit rfl (fun _ h_ => h_) (fun v hv => okB0_spec (allL_spec rfl v hv))⟩⟩, trivial⟩ (fun v_ mem_ hR => ?_); obtain ⟨t2_, o_, h_, hd_, rfl, rfl⟩ := hR; refine ⟨rfl, .string t2_, fun _ => rfl, ?_⟩; (conv => whnf); refine mapK_eval (cs' := [.slice none 0 0, ii o_, wv h_]) rfl ?_; conv => whnf)
    | (show OutK _ _ _ _; exact out_forget [] ⟨_, hI.small (by omega), rfl, rfl⟩ rfl (okB2_spec rfl) trivial rfl rfl)
    | (refine StoreK.mk rfl ?_; conv => whnf)
    | exact join_same
    | exact (by assumption : (_ : Bool) = (_ : Bool))
    | (refine br_true (by assumption) ?_; conv => whnf)
    | (refine br_false (by assumption) ?_; conv => whnf)
    | (refine br_not ?_; conv => whnf)
    | (refine br_code ?_; conv => whnf)
    | (with_reducible refine br_and ?_; conv => whnf)
    | (with_reducible refine br_or ?_; conv => whnf)
    | (refine br_eq2 ?_; conv => whnf)
    | (refine CallOK.useR (c_ListText (by first | assumption | exact Row.lit rfl rfl | omega) (by first | assumption | exact Row.lit rfl rfl | omega) (by first | assumption | exact Row.lit rfl rfl | omega) (by first | assumption | exact Row.lit rfl rfl | omega)) [_] rfl rfl rfl ⟨⟨⟨_, rfl, .plain rfl (fun _ h_ => by first | exact h_ | cases h_) (by first | exact Plain.of rfl | exact Row.all (by assumption))⟩⟩, trivial⟩ (fun v_ mem_ hR => ?_); obtain ⟨rfl, rfl⟩ := hR; refine ⟨rfl, ?_⟩; conv => whnf)
    | (refine draw_auto (by decide +kernel) ?_; conv => whnf)
    | (refine draw_asg (by decide +kernel) ?_; conv => whnf)
    | (refine draw_st (by decide +kernel) ?_; conv => whnf)
    | (refine draw_call (by decide +kernel) ?_; conv => whnf)
    | (refine next_same ?_; conv => whnf)
    | (refine mapK_row (by assumption) ?_; conv => whnf)
    | (refine mapK_plain (Plain.of rfl) ?_; conv => whnf)
    | (refine mapK_lit ?_; conv => whnf)
    | (refine br_split (fun _ => ?_) (fun _ => ?_) <;> conv => whnf)
    | exact (rfl : (_ : Value) = _)
    | (simp only [*]; exact (rfl : (_ : Value) = _))
    | (simp [*]; done))

end Go.Proofs.YtlkbfpklhncfbaaGreatDoor
end

section
/-
  Contracts of functions of the program (printed by a program of this work; Lean checks each).
  Conditions: as each contract states.
-/
namespace Go.Proofs.YtlkbfpklhncfbaaGreatDoor
open Go.Ev Go.RowKit
set_option maxRecDepth 100000
set_option linter.unusedVariables false
set_option linter.unusedSimpArgs false

attribute [local irreducible] detF isPtF

theorem c_likeInts {xs : List Int} {sp sq : List Value} {n n2 c c2 : Nat} (h1 : Row (il xs) sp n c 1) (h2 : Row (il xs) sq n2 c2 1) (hn : n ≤ 1000000000) : CallOK Tryz.prog n_laws_likeInts [.slice (some ⟨0, 0, none⟩) n c, .slice (some ⟨1, 0, none⟩) n2 c2] [(il xs ++ sp, none), (il xs ++ sq, none)] (fun v m_ => v = bb true ∧ m_ = [(il xs ++ sp, none), (il xs ++ sq, none)]) := by
  obtain rfl := row_same h1 h2 (by decide); refine callOK_ofF good fn_laws_likeInts ?_
  conv => whnf
  all_goals (repeat' first
    | (refine br_true ?_ ?_; (focus (simp; done)); conv => whnf)
    | (refine br_false ?_ ?_; (focus (simp; done)); conv => whnf)
    | (refine enter_forget [] (loop_rec (fun (s : Int) => match s with | i => [.slice (some ⟨0, 0, none⟩) n c, .slice (some ⟨1, 0, none⟩) n c2, wild, wild, wild, ii i, wild, wild, wild, wild, wild, wild, wild, wild, wild, wild, wild, wild, wild, wild, wild, wild, wild, wild, wild, wild]) (fun (s : Int) => match s with | i => [(il xs ++ sp, none), (il xs ++ sq, none)]) (fun (s : Int) => match s with | i => ((n : Int) - i).toNat) (fun (s : Int) => match s with | i => 0 ≤ i ∧ i ≤ (n : Int)) (0) (by (try clear IH); (try simp only [decide_eq_true_eq, decide_eq_false_iff_not, Bool.not_eq_true, Bool.not_eq_false, Bool.not_eq_eq_eq_not, Bool.not_true, Bool.not_false] at *); omega) ?_) (tmR_rfl rfl rfl) ⟨⟨⟨_, rfl, .plain rfl rfl (by first | exact Plain.of rfl | exact Row.all (by assumption))⟩⟩, ⟨⟨_, rfl, .plain rfl rfl (by first | exact Plain.of rfl | exact Row.all (by assumption))⟩⟩, trivial⟩ rfl rfl; rintro fuel_ i hI IH; replace hI : 0 ≤ i ∧ i ≤ (n : Int) := hI; conv => whnf)
    | exact next_forget [] (IH (w64 (i + 1)) (idx_next hI (by assumption) (by omega)) (idx_mu hI (by assumption) (by omega))) (tmR_rfl rfl rfl) ⟨⟨⟨_, rfl, .plain rfl rfl (by first | exact Plain.of rfl | exact Row.all (by assumption))⟩⟩, ⟨⟨_, rfl, .plain rfl rfl (by first | exact Plain.of rfl | exact Row.all (by assumption))⟩⟩, trivial⟩ rfl rfl
    | (refine br_in (by (try clear IH); (try simp only [decide_eq_true_eq, decide_eq_false_iff_not, Bool.not_eq_true, Bool.not_eq_false, Bool.not_eq_eq_eq_not, Bool.not_true, Bool.not_false] at *); omega) (by (try clear IH); (try simp only [decide_eq_true_eq, decide_eq_false_iff_not, Bool.not_eq_true, Bool.not_eq_false, Bool.not_eq_eq_eq_not, Bool.not_true, Bool.not_false] at *); omega) ?_; conv => whnf)
    | (refine force_eq (take_il (i := (i).toNat) (by omega) (by (try clear IH); have := row_il h1; (try simp only [decide_eq_true_eq, decide_eq_false_iff_not, Bool.not_eq_true, Bool.not_eq_false, Bool.not_eq_eq_eq_not, Bool.not_true, Bool.not_false] at *); omega)) ?_; conv => whnf)
    | (refine force_eq (take_il (i := (i).toNat) (by omega) (by (try clear IH); have := row_il h2; (try simp only [decide_eq_true_eq, decide_eq_false_iff_not, Bool.not_eq_true, Bool.not_eq_false, Bool.not_eq_eq_eq_not, Bool.not_true, Bool.not_false] at *); omega)) ?_; conv => whnf)
    | exact out_forget [] ⟨rfl, rfl⟩ rfl (okB2_spec rfl) ⟨⟨⟨_, rfl, .plain rfl rfl (by first | exact Plain.of rfl | exact Row.all (by assumption))⟩⟩, ⟨⟨_, rfl, .plain rfl rfl (by first | exact Plain.of rfl | exact Row.all (by assumption))⟩⟩, trivial⟩ rfl rfl
    | (refine StoreK.mk rfl ?_; conv => whnf)
    | exact join_same
    | exact (by assumption : (_ : Bool) = (_ : Bool))
    | (refine br_true (by assumption) ?_; conv => whnf)
    | (refine br_false (by assumption) ?_; conv => whnf)
    | (refine br_not ?_; conv => whnf)
    | (refine br_code ?_; conv => whnf)
    | (with_reducible refine br_and ?_; conv => whnf)
    | (with_reducible refine br_or ?_; conv => whnf)
    | (refine br_eq2 ?_; conv => whnf)
    | (refine draw_auto (by decide +kernel) ?_; conv => whnf)
    | (refine draw_asg (by decide +kernel) ?_; conv => whnf)
    | (refine draw_st (by decide +kernel) ?_; conv => whnf)
    | (refine draw_call (by decide +kernel) ?_; conv => whnf)
    | (refine enter_same (loop_n 12 ?_); conv => whnf)
    | (refine next_same ?_; conv => whnf)
    | (refine mapK_row (by assumption) ?_; conv => whnf)
    | (refine mapK_plain (Plain.of rfl) ?_; conv => whnf)
    | (refine mapK_lit ?_; conv => whnf)
    | (refine br_split (fun _ => ?_) (fun _ => ?_) <;> conv => whnf)
    | exact (rfl : (_ : Value) = _)
    | (simp only [*]; exact (rfl : (_ : Value) = _))
    | (simp [*]; done))

theorem c_likeInts_nil   : Pure Tryz.prog n_laws_likeInts [.slice none 0 0, .slice none 0 0] (bb true) := by
  refine pure_of good fn_laws_likeInts rfl rfl ?_
  conv => whnf
  all_goals (repeat' first
    | (refine br_true ?_ ?_; (focus (simp; done)); conv => whnf)
    | (refine br_false ?_ ?_; (focus (simp; done)); conv => whnf)
    | (refine StoreK.mk rfl ?_; conv => whnf)
    | exact join_same
    | exact (by assumption : (_ : Bool) = (_ : Bool))
    | (refine br_true (by assumption) ?_; conv => whnf)
    | (refine br_false (by assumption) ?_; conv => whnf)
    | (refine br_not ?_; conv => whnf)
    | (refine br_code ?_; conv => whnf)
    | (with_reducible refine br_and ?_; conv => whnf)
    | (with_reducible refine br_or ?_; conv => whnf)
    | (refine br_eq2 ?_; conv => whnf)
    | (refine draw_auto (by decide +kernel) ?_; conv => whnf)
    | (refine draw_asg (by decide +kernel) ?_; conv => whnf)
    | (refine draw_st (by decide +kernel) ?_; conv => whnf)
    | (refine draw_call (by decide +kernel) ?_; conv => whnf)
    | (refine enter_same (loop_n 12 ?_); conv => whnf)
    | (refine next_same ?_; conv => whnf)
    | (refine mapK_row (by assumption) ?_; conv => whnf)
    | (refine mapK_plain (Plain.of rfl) ?_; conv => whnf)
    | (refine mapK_lit ?_; conv => whnf)
    | (refine br_split (fun _ => ?_) (fun _ => ?_) <;> conv => whnf)
    | exact (rfl : (_ : Value) = _)
    | (simp only [*]; exact (rfl : (_ : Value) = _))
    | (simp [*]; done))

theorem c_points5 {ps : List (Int × Int)} {sp sq : List Value} {n n2 c c2 : Nat} (h1 : Row (pl ps) sp n c 2) (h2 : Row (pl ps) sq n2 c2 2) (hn : n ≤ 1000000000) : CallOK Tryz.prog n_laws_points5 [.slice (some ⟨0, 0, none⟩) n c, .slice (some ⟨1, 0, none⟩) n2 c2] [(pl ps ++ sp, some t_impl_Point), (pl ps ++ sq, some t_impl_Point)] (fun v m_ => v = bb true ∧ m_ = [(pl ps ++ sp, some t_impl_Point), (pl ps ++ sq, some t_impl_Point)]) := by
  obtain rfl := row_same h1 h2 (by decide); refine callOK_ofF good fn_laws_points5 ?_
  conv => whnf
  all_goals (repeat' first
    | (refine br_true ?_ ?_; (focus (simp; done)); conv => whnf)
    | (refine br_false ?_ ?_; (focus (simp; done)); conv => whnf)
    | (refine enter_forget [] (loop_rec (fun (s : Int) => match s with | i => [.slice (some ⟨0, 0, none⟩) n c, .slice (some ⟨1, 0, none⟩) n c2, wild, wild, wild, ii i, wild, wild, wild, wild, wild, wild, wild, wild, wild, wild, wild, wild, wild, wild, wild, wild, wild, wild, wild, wild]) (fun (s : Int) => match s with | i => [(pl ps ++ sp, some t_impl_Point), (pl ps ++ sq, some t_impl_Point)]) (fun (s : Int) => match s with | i => ((n : Int) - i).toNat) (fun (s : Int) => match s with | i => 0 ≤ i ∧ i ≤ (n : Int)) (0) (by (try clear IH); (try simp only [decide_eq_true_eq, decide_eq_false_iff_not, Bool.not_eq_true, Bool.not_eq_false, Bool.not_eq_eq_eq_not, Bool.not_true, Bool.not_false] at *); omega) ?_) (tmR_rfl rfl rfl) ⟨⟨⟨_, rfl, .plain rfl rfl (by first | exact Plain.of rfl | exact Row.all (by assumption))⟩⟩, ⟨⟨_, rfl, .plain rfl rfl (by first | exact Plain.of rfl | exact Row.all (by assumption))⟩⟩, trivial⟩ rfl rfl; rintro fuel_ i hI IH; replace hI : 0 ≤ i ∧ i ≤ (n : Int) := hI; conv => whnf)
    | exact next_forget [] (IH (w64 (i + 1)) (idx_next hI (by assumption) (by omega)) (idx_mu hI (by assumption) (by omega))) (tmR_rfl rfl rfl) ⟨⟨⟨_, rfl, .plain rfl rfl (by first | exact Plain.of rfl | exact Row.all (by assumption))⟩⟩, ⟨⟨_, rfl, .plain rfl rfl (by first | exact Plain.of rfl | exact Row.all (by assumption))⟩⟩, trivial⟩ rfl rfl
    | (refine br_in (by (try clear IH); (try simp only [decide_eq_true_eq, decide_eq_false_iff_not, Bool.not_eq_true, Bool.not_eq_false, Bool.not_eq_eq_eq_not, Bool.not_true, Bool.not_false] at *); omega) (by (try clear IH); (try simp only [decide_eq_true_eq, decide_eq_false_iff_not, Bool.not_eq_true, Bool.not_eq_false, Bool.not_eq_eq_eq_not, Bool.not_true, Bool.not_false] at *); omega) ?_; conv => whnf)
    | (refine force_eq (take_pt (i := (i).toNat) (by omega) (by (try clear IH); have := row_pl h1; (try simp only [decide_eq_true_eq, decide_eq_false_iff_not, Bool.not_eq_true, Bool.not_eq_false, Bool.not_eq_eq_eq_not, Bool.not_true, Bool.not_false] at *); omega)) ?_; conv => whnf)
    | (refine force_eq (take_pt (i := (i).toNat) (by omega) (by (try clear IH); have := row_pl h2; (try simp only [decide_eq_true_eq, decide_eq_false_iff_not, Bool.not_eq_true, Bool.not_eq_false, Bool.not_eq_eq_eq_not, Bool.not_true, Bool.not_false] at *); omega)) ?_; conv => whnf)
    | exact out_forget [] ⟨rfl, rfl⟩ rfl (okB2_spec rfl) ⟨⟨⟨_, rfl, .plain rfl rfl (by first | exact Plain.of rfl | exact Row.all (by assumption))⟩⟩, ⟨⟨_, rfl, .plain rfl rfl (by first | exact Plain.of rfl | exact Row.all (by assumption))⟩⟩, trivial⟩ rfl rfl
    | (refine StoreK.mk rfl ?_; conv => whnf)
    | exact join_same
    | exact (by assumption : (_ : Bool) = (_ : Bool))
    | (refine br_true (by assumption) ?_; conv => whnf)
    | (refine br_false (by assumption) ?_; conv => whnf)
    | (refine br_not ?_; conv => whnf)
    | (refine br_code ?_; conv => whnf)
    | (with_reducible refine br_and ?_; conv => whnf)
    | (with_reducible refine br_or ?_; conv => whnf)
    | (refine br_eq2 ?_; conv => whnf)
    | (refine draw_auto (by decide +kernel) ?_; conv => whnf)
    | (refine draw_asg (by decide +kernel) ?_; conv => whnf)
    | (refine draw_st (by decide +kernel) ?_; conv => whnf)
    | (refine draw_call (by decide +kernel) ?_; conv => whnf)
    | (refine enter_same (loop_n 12 ?_); conv => whnf)
    | (refine next_same ?_; conv => whnf)
    | (refine mapK_row (by assumption) ?_; conv => whnf)
    | (refine mapK_plain (Plain.of rfl) ?_; conv => whnf)
    | (refine mapK_lit ?_; conv => whnf)
    | (refine br_split (fun _ => ?_) (fun _ => ?_) <;> conv => whnf)
    | exact (rfl : (_ : Value) = _)
    | (simp only [*]; exact (rfl : (_ : Value) = _))
    | (simp [*]; done))

theorem c_points5_nil   : Pure Tryz.prog n_laws_points5 [.slice none 0 0, .slice none 0 0] (bb true) := by
  refine pure_of good fn_laws_points5 rfl rfl ?_
  conv => whnf
  all_goals (repeat' first
    | (refine br_true ?_ ?_; (focus (simp; done)); conv => whnf)
    | (refine br_false ?_ ?_; (focus (simp; done)); conv => whnf)
    | (refine StoreK.mk rfl ?_; conv => whnf)
    | exact join_same
    | exact (by assumption : (_ : Bool) = (_ : Bool))
    | (refine br_true (by assumption) ?_; conv => whnf)
    | (refine br_false (by assumption) ?_; conv => whnf)
    | (refine br_not ?_; conv => whnf)
    | (refine br_code ?_; conv => whnf)
    | (with_reducible refine br_and ?_; conv => whnf)
    | (with_reducible refine br_or ?_; conv => whnf)
    | (refine br_eq2 ?_; conv => whnf)
    | (refine draw_auto (by decide +kernel) ?_; conv => whnf)
    | (refine draw_asg (by decide +kernel) ?_; conv => whnf)
    | (refine draw_st (by decide +kernel) ?_; conv => whnf)
    | (refine draw_call (by decide +kernel) ?_; conv => whnf)
    | (refine enter_same (loop_n 12 ?_); conv => whnf)
    | (refine next_same ?_; conv => whnf)
    | (refine mapK_row (by assumption) ?_; conv => whnf)
    | (refine mapK_plain (Plain.of rfl) ?_; conv => whnf)
    | (refine mapK_lit ?_; conv => whnf)
    | (refine br_split (fun _ => ?_) (fun _ => ?_) <;> conv => whnf)
    | exact (rfl : (_ : Value) = _)
    | (simp only [*]; exact (rfl : (_ : Value) = _))
    | (simp [*]; done))

theorem c_points5_x {sq : List Value} {c2 : Nat} (h2 : Plain sq) : CallOK Tryz.prog n_laws_points5 [.slice none 0 0, .slice (some ⟨0, 0, none⟩) 0 c2] [(sq, some t_impl_Point)] (fun v m_ => v = bb true ∧ m_ = [(sq, some t_impl_Point)]) := by
  refine callOK_ofF good fn_laws_points5 ?_
  conv => whnf
  all_goals (repeat' first
    | (refine br_true ?_ ?_; (focus (simp; done)); conv => whnf)
    | (refine br_false ?_ ?_; (focus (simp; done)); conv => whnf)
    | (exact out_forget [] ⟨rfl, rfl⟩ rfl (okB2_spec rfl) ⟨⟨⟨_, rfl, .plain rfl rfl h2⟩⟩, trivial⟩ rfl rfl)
    | (refine StoreK.mk rfl ?_; conv => whnf)
    | exact join_same
    | exact (by assumption : (_ : Bool) = (_ : Bool))
    | (refine br_true (by assumption) ?_; conv => whnf)
    | (refine br_false (by assumption) ?_; conv => whnf)
    | (refine br_not ?_; conv => whnf)
    | (refine br_code ?_; conv => whnf)
    | (with_reducible refine br_and ?_; conv => whnf)
    | (with_reducible refine br_or ?_; conv => whnf)
    | (refine br_eq2 ?_; conv => whnf)
    | (refine draw_auto (by decide +kernel) ?_; conv => whnf)
    | (refine draw_asg (by decide +kernel) ?_; conv => whnf)
    | (refine draw_st (by decide +kernel) ?_; conv => whnf)
    | (refine draw_call (by decide +kernel) ?_; conv => whnf)
    | (refine enter_same (loop_n 12 ?_); conv => whnf)
    | (refine next_same ?_; conv => whnf)
    | (refine mapK_row (by assumption) ?_; conv => whnf)
    | (refine mapK_plain (Plain.of rfl) ?_; conv => whnf)
    | (refine mapK_lit ?_; conv => whnf)
    | (refine br_split (fun _ => ?_) (fun _ => ?_) <;> conv => whnf)
    | exact (rfl : (_ : Value) = _)
    | (simp only [*]; exact (rfl : (_ : Value) = _))
    | (simp [*]; done))

theorem c_Det_good {a b c d : Int} (h1 : isPtF a b = true) (h2 : isPtF c d = true) : Pure Tryz.prog n_impl_DeterminantOf [pt a b, pt c d] (t2 (ii (detF a b c d)) (ii 0)) := by
  refine pure_of good fn_impl_DeterminantOf rfl rfl ?_
  conv => whnf
  all_goals (repeat' first
    | (refine br_true (b := isPtF a b && isPtF c d) (by rw [h1, h2]; rfl) ?_; conv => whnf)
    | (refine br_false (b := !(isPtF a b && isPtF c d)) (by rw [h1, h2]; rfl) ?_; conv => whnf)
    | exact h1
    | exact h2
    | (refine StoreK.mk rfl ?_; conv => whnf)
    | exact join_same
    | exact (by assumption : (_ : Bool) = (_ : Bool))
    | (refine br_true (by assumption) ?_; conv => whnf)
    | (refine br_false (by assumption) ?_; conv => whnf)
    | (refine br_not ?_; conv => whnf)
    | (refine br_code ?_; conv => whnf)
    | (with_reducible refine br_and ?_; conv => whnf)
    | (with_reducible refine br_or ?_; conv => whnf)
    | (refine br_eq2 ?_; conv => whnf)
    | (refine c_points_2.call1 rfl rfl ⟨_, rfl⟩ ?_; conv => whnf)
    | (refine c_points_2.quiet1 rfl rfl ⟨_, rfl⟩ ?_; conv => whnf)
    | (refine c_points_3.call1 rfl rfl ⟨_, rfl⟩ ?_; conv => whnf)
    | (refine c_points_3.quiet1 rfl rfl ⟨_, rfl⟩ ?_; conv => whnf)
    | (refine c_points_1.call1 rfl rfl ⟨_, rfl⟩ ?_; conv => whnf)
    | (refine c_points_1.quiet1 rfl rfl ⟨_, rfl⟩ ?_; conv => whnf)
    | (refine c_impl_det.call ?_; conv => whnf)
    | (refine c_impl_det.quiet ?_; conv => whnf)
    | (refine draw_auto (by decide +kernel) ?_; conv => whnf)
    | (refine draw_asg (by decide +kernel) ?_; conv => whnf)
    | (refine draw_st (by decide +kernel) ?_; conv => whnf)
    | (refine draw_call (by decide +kernel) ?_; conv => whnf)
    | (refine enter_same (loop_n 12 ?_); conv => whnf)
    | (refine next_same ?_; conv => whnf)
    | (refine mapK_row (by assumption) ?_; conv => whnf)
    | (refine mapK_plain (Plain.of rfl) ?_; conv => whnf)
    | (refine mapK_lit ?_; conv => whnf)
    | (refine br_split (fun _ => ?_) (fun _ => ?_) <;> conv => whnf)
    | exact (rfl : (_ : Value) = _)
    | (simp only [*]; exact (rfl : (_ : Value) = _))
    | (simp [*]; done))

theorem ratF_em (a b : Int) : (ratF a b = true ∧ ∃ P Q, BackX a b P Q) ∨ ratF a b = false := by
  cases h : ratF a b
  · exact .inr rfl
  · refine .inl ⟨rfl, exp_back (ratF_ok h) ?_⟩
    have := (ratF_parts h).2
    unfold inF at this
    rw [Bool.and_eq_true, decide_eq_true_eq, decide_eq_true_eq] at this
    exact this.1
theorem BackX.same {a b P Q : Int} (h : BackX a b P Q) : decide (w64 (P * b) = w64 (Q * a)) = true := decide_eq_true (congrArg w64 h.eq)
theorem BackX.nlt {a b P Q : Int} (h : BackX a b P Q) : decide (Q < 1) = false := decide_eq_false (by have := h.pos; omega)
theorem c_Frac_back {a b P Q : Int} {sp : List Value} {n c : Nat} (h : BackX a b P Q) (h1 : Row (il (expL a b)) sp n c 1) (hn : n ≤ 1048576) : CallR Tryz.prog n_impl_FractionOf [.slice (some ⟨0, 0, none⟩) n c] [il (expL a b) ++ sp] (.tuple #[ii P, ii Q, ii 0]) := by
  have := c_FractionOf h1 hn
  rw [h.v] at this
  exact this
/-- The place of a pair of convergents. -/
structure ConvP (a b i : Int) : Prop where
  g1 : isPtF ((convs (expL a b)).getD (w64 (i - 1)).toNat (0, 0)).1 ((convs (expL a b)).getD (w64 (i - 1)).toNat (0, 0)).2 = true
  g2 : isPtF ((convs (expL a b)).getD i.toNat (0, 0)).1 ((convs (expL a b)).getD i.toNat (0, 0)).2 = true
  det : detF ((convs (expL a b)).getD (w64 (i - 1)).toNat (0, 0)).1 ((convs (expL a b)).getD (w64 (i - 1)).toNat (0, 0)).2 ((convs (expL a b)).getD i.toNat (0, 0)).1 ((convs (expL a b)).getD i.toNat (0, 0)).2 = 1 ∨
    detF ((convs (expL a b)).getD (w64 (i - 1)).toNat (0, 0)).1 ((convs (expL a b)).getD (w64 (i - 1)).toNat (0, 0)).2 ((convs (expL a b)).getD i.toNat (0, 0)).1 ((convs (expL a b)).getD i.toNat (0, 0)).2 = -1
theorem conv_pl {a b i : Int} {sp : List Value} {n c : Nat} (h : ratF a b = true) (hr : Row (pl (convs (expL a b))) sp n c 2) (hn : n ≤ 1000001) (h1 : 1 ≤ i) (h2 : decide (i < (n : Int)) = true) : ConvP a b i := by
  have h2 := of_decide_eq_true h2
  have hl := row_pl hr
  rw [convs_len] at hl
  obtain ⟨k1, k2, k3⟩ := conv_next (ratF_ok h) (i := i.toNat - 1) (by omega)
  have e1 : (w64 (i - 1)).toNat = i.toNat - 1 := by rw [w64_in (by omega) (by omega)]; omega
  have e2 : i.toNat - 1 + 1 = i.toNat := by omega
  rw [e2] at k2 k3
  exact ⟨by rw [e1]; exact k1, k2, by rw [e1]; exact k3⟩
theorem ConvP.other {a b i : Int} (h : ConvP a b i) (hne : decide (detF ((convs (expL a b)).getD (w64 (i - 1)).toNat (0, 0)).1 ((convs (expL a b)).getD (w64 (i - 1)).toNat (0, 0)).2 ((convs (expL a b)).getD i.toNat (0, 0)).1 ((convs (expL a b)).getD i.toNat (0, 0)).2 = 1) = false) : decide (detF ((convs (expL a b)).getD (w64 (i - 1)).toNat (0, 0)).1 ((convs (expL a b)).getD (w64 (i - 1)).toNat (0, 0)).2 ((convs (expL a b)).getD i.toNat (0, 0)).1 ((convs (expL a b)).getD i.toNat (0, 0)).2 = -1) = true := by
  rcases h.det with e | e
  · exact absurd e (of_decide_eq_false hne)
  · exact decide_eq_true e
theorem c_Parse_back {a b : Int} (h : isPtF a b = true) : CallOK Tryz.prog n_impl_ParsePoint [bStr (ptxt (a, b))] [] (fun v m_ => v = t2 (pt a b) (ii 0) ∧ m_ = []) :=
  c_impl_ParsePoint_ok (s := ⟨(ptxt (a, b)).toArray⟩) (p := (a, b)) (by rw [bytes_size]; have := ptxt_len h; omega) (readI_iff.2 ⟨h, rfl⟩)
theorem pt_em (a b : Int) : isPtF a b = true ∨ isPtF a b = false := by cases isPtF a b <;> simp
theorem pts_em (Q : List (Int × Int)) : Q.any badP = true ∨ (Q = []) ∨ (Q.any badP = false ∧ Q ≠ []) := by
  cases h : Q.any badP
  · by_cases hq : Q = []
    · exact .inr (.inl hq)
    · exact .inr (.inr ⟨rfl, hq⟩)
  · exact .inl rfl
theorem rd_em (z : ByteArray) : (∃ p : Int × Int, readS z.data.toList = some p) ∨ readS z.data.toList = none := by
  cases h : readS z.data.toList with
  | none => exact .inr rfl
  | some p => exact .inl ⟨p, rfl⟩
theorem ls_em (z : ByteArray) : z = ⟨#[]⟩ ∨ ((z.data.toList == []) = false ∧ ∃ Q, Reads z Q) ∨ ((z.data.toList == []) = false ∧ NoRead z) := by
  cases h : (z.data.toList == [])
  · rcases reads_em z with hq | hq
    · exact .inr (.inl ⟨rfl, hq⟩)
    · exact .inr (.inr ⟨rfl, hq⟩)
  · left
    have h := eq_of_beq h
    obtain ⟨⟨l⟩⟩ := z
    simp at h
    subst h; rfl
theorem c_PP_ok {Q : List (Int × Int)} (hb : Q.any badP = false) (hne : Q ≠ []) (hl : Q.length ≤ 100) : CallOK Tryz.prog n_impl_ParsePoints [bStr (ltxt Q)] [] (fun v m_ => ∃ n c sp, Row (pl Q) sp n c 2 ∧ v = t2 (.slice (some ⟨0, 0, none⟩) n c) (ii 0) ∧ m_ = [(pl Q ++ sp, some 38)]) :=
  c_impl_ParsePoints_ok (z := ⟨(ltxt Q).toArray⟩) (ltxt_small hb hl) (ltxt_ne hne) (ltxt_reads hne hb hl)
theorem c_PP_nil : Ev.Pure Tryz.prog n_impl_ParsePoints [bStr (ltxt [])] (t2 (.slice none 0 0) (ii 0)) := c_impl_ParsePoints_nil
theorem c_spec_PPs_no {z : ByteArray} (hz : z.size < 4294967281) (hne : (z.data.toList == []) = false) (h : NoRead z) : CallOK Tryz.prog n_spec_ParsePoints [.string z] [] (fun v m_ => v = t2 (.slice none 0 0) (ii 6) ∧ m_ = []) := by
  rcases h.spec with h | ⟨Q, h1, h2⟩
  · exact c_spec_ParsePoints_b2 hz hne h
  · exact c_spec_ParsePoints_b1 hz hne h1 h2

end Go.Proofs.YtlkbfpklhncfbaaGreatDoor
end
