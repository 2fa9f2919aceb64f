/-
  Contracts of functions of the program (printed by a program of this work; Lean checks each).
  Conditions: as each contract states.
-/
import Derived.Test.YtgbnoaggnfjjgaaK65
import Derived.Test.YtgbnoaggnfjjgaaK4
import Derived.Test.YtgbnoaggnfjjgaaWrd
namespace Go.Proofs.Ytgbnoaggnfjjgaa
open Go.Ev Go.RowKit
set_option maxRecDepth 100000
set_option linter.unusedVariables false
set_option linter.unusedSimpArgs false

attribute [local irreducible] isPtF detF wordL isUnit4
theorem br_unit {a b c d : Int} {A B : Prop} (h : brK (isUnit4 a b c d) A B) : brK (eqCells [.int .i64 a, .int .i64 b, .int .i64 c, .int .i64 d] [.int .i64 1, .int .i64 0, .int .i64 0, .int .i64 1]) A B := by
  have : eqCells [.int .i64 a, .int .i64 b, .int .i64 c, .int .i64 d] [.int .i64 1, .int .i64 0, .int .i64 0, .int .i64 1] = isUnit4 a b c d := by simp [eqCells, isUnit4]
  rw [this]; exact h

theorem c_impl_unit   : Pure Try.prog n_impl_unit [] (q4 1 0 0 1) := by
  refine pure_of good fn_impl_unit rfl rfl ?_
  conv => whnf
  all_goals (repeat' first
    | (refine StoreK.mk rfl ?_; conv => whnf)
    | exact join_same
    | exact (by assumption : (_ : Bool) = (_ : Bool))
    | (refine br_true (by assumption) ?_; conv => whnf)
    | (refine br_false (by assumption) ?_; conv => whnf)
    | (refine br_not ?_; conv => whnf)
    | (refine br_code ?_; conv => whnf)
    | (with_reducible refine br_and ?_; conv => whnf)
    | (with_reducible refine br_or ?_; conv => whnf)
    | (refine br_eq2 ?_; conv => whnf)
    | (refine draw_auto (by decide +kernel) ?_; conv => whnf)
    | (refine draw_asg (by decide +kernel) ?_; conv => whnf)
    | (refine draw_st (by decide +kernel) ?_; conv => whnf)
    | (refine draw_call (by decide +kernel) ?_; conv => whnf)
    | (refine enter_same (loop_n 12 ?_); conv => whnf)
    | (refine next_same ?_; conv => whnf)
    | (refine mapK_row (by assumption) ?_; conv => whnf)
    | (refine mapK_plain (Plain.of rfl) ?_; conv => whnf)
    | (refine mapK_lit ?_; conv => whnf)
    | (refine br_split (fun _ => ?_) (fun _ => ?_) <;> conv => whnf)
    | exact (rfl : (_ : Value) = _)
    | (simp only [*]; exact (rfl : (_ : Value) = _))
    | (simp [*]; done))

set_option maxHeartbeats 1000000 in
theorem c_spec_WordOfMatrix_ok {w x y z : Int} {m : List UInt8} (h1 : isPtF w x = true) (h2 : isPtF y z = true) (hd : detF w x y z = 1) (hm : WMat w x y z) (hp : wordL 200 w x y z = some m) : CallOK Try.prog n_spec_WordOfMatrix [q4 w x y z] [] (fun v m_ => v = t2 (.string ⟨m.toArray⟩) (ii (0)) ∧ m_ = []) := by
  refine callOK_ofF good fn_spec_WordOfMatrix ?_
  conv => whnf
  all_goals (repeat' first
    | (refine br_unit ?_; conv => whnf)
    | (refine br_true (b := decide (detF w x y z = 1)) (decide_eq_true hd) ?_; conv => whnf)
    | (refine br_true (b := isPtF w x && isPtF y z) (by rw [h1, h2]; rfl) ?_; conv => whnf)
    | (refine br_false (b := decide (w < 0)) (decide_eq_false (by have := hm.a0; omega)) ?_; conv => whnf)
    | (refine br_false (b := decide (x < 0)) (decide_eq_false (by have := hm.b0; omega)) ?_; conv => whnf)
    | (refine br_false (b := decide (y < 0)) (decide_eq_false (by have := hm.c0; omega)) ?_; conv => whnf)
    | (refine br_false (b := decide (z < 0)) (decide_eq_false (by have := hm.d0; omega)) ?_; conv => whnf)
    | (refine enter_forget [0] (loop_rec (fun (s : Int × Int × Int × Int × ByteArray × (List UInt8)) => match s with | (a, b, c, d, s, l) => [wild, .pointer (some ⟨0, 0, none⟩), wild, wild, .string s, wild, wild, wild, wild, wild, wild, wild, wild, wild, wild, wild, wild, wild, wild, wild, wild, wild, wild, wild, wild, wild, wild, wild, wild, wild, wild, wild, wild, wild, wild, wild, wild, wild, wild, wild, wild, wild, wild, wild, wild, wild, wild, wild, wild, wild, wild, wild, wild, wild, wild, wild, wild, wild, wild, wild, wild, wild, wild, wild, wild, wild, wild, wild, wild, wild, wild, wild, wild, wild, wild, wild, wild, wild, wild, wild, wild, wild, wild, wild, wild, wild, wild, wild, wild, wild, wild, wild, wild, wild, wild, wild, wild, wild, wild, wild, wild, wild, wild, wild, wild, wild, wild, wild, wild, wild, wild, wild]) (fun (s : Int × Int × Int × Int × ByteArray × (List UInt8)) => match s with | (a, b, c, d, s, l) => [([ii a, ii b, ii c, ii d], some t_impl_Matrix)]) (fun (s : Int × Int × Int × Int × ByteArray × (List UInt8)) => match s with | (a, b, c, d, s, l) => 200 - l.length) (fun (s : Int × Int × Int × Int × ByteArray × (List UInt8)) => match s with | (a, b, c, d, s, l) => WrdS w x y z a b c d s l) (w, x, y, z, ⟨#[]⟩, []) (WrdS.start hm) ?_) (tmR_rfl rfl rfl) ⟨⟨⟨_, rfl, .plain rfl rfl (by first | exact Plain.of rfl | exact Row.all (by assumption))⟩⟩, trivial⟩ rfl rfl; rintro fuel_ ⟨a, b, c, d, s, l⟩ hI IH; replace hI : WrdS w x y z a b c d s l := hI; conv => whnf)
    | exact next_forget [0] (IH (w64 (a - c), w64 (b - d), c, d, _, _) (by exact hI.right (by assumption) (by assumption) (by assumption) (by assumption)) (by exact hI.mu (by assumption) _)) (tmR_rfl rfl rfl) ⟨⟨⟨_, rfl, .plain rfl rfl (by first | exact Plain.of rfl | exact Row.all (by assumption))⟩⟩, trivial⟩ rfl rfl
    | exact next_forget [0] (IH (a, b, w64 (c - a), w64 (d - b), _, _) (by exact hI.left1 (by assumption) (by assumption) (by assumption)) (by exact hI.mu (by assumption) _)) (tmR_rfl rfl rfl) ⟨⟨⟨_, rfl, .plain rfl rfl (by first | exact Plain.of rfl | exact Row.all (by assumption))⟩⟩, trivial⟩ rfl rfl
    | exact next_forget [0] (IH (a, b, w64 (c - a), w64 (d - b), _, _) (by exact hI.left2 (by assumption) (by assumption) (by assumption)) (by exact hI.mu (by assumption) _)) (tmR_rfl rfl rfl) ⟨⟨⟨_, rfl, .plain rfl rfl (by first | exact Plain.of rfl | exact Row.all (by assumption))⟩⟩, trivial⟩ rfl rfl
    | (refine AddS.mk (by show _ + 1 ≤ _; have := hI.size; have := hI.inv.len; omega) ?_; conv => whnf)
    | (exfalso; exact hI.nlim (by assumption) (by assumption) hp)
    | (show OutK _ _ _ _; obtain rfl := hI.fin (by assumption) hp; exact out_forget [] ⟨rfl, rfl⟩ rfl (okB2_spec rfl) trivial rfl rfl)
    | (refine StoreK.mk rfl ?_; conv => whnf)
    | exact join_same
    | exact (by assumption : (_ : Bool) = (_ : Bool))
    | (refine br_true (by assumption) ?_; conv => whnf)
    | (refine br_false (by assumption) ?_; conv => whnf)
    | (refine br_not ?_; conv => whnf)
    | (refine br_code ?_; conv => whnf)
    | (with_reducible refine br_and ?_; conv => whnf)
    | (with_reducible refine br_or ?_; conv => whnf)
    | (refine br_eq2 ?_; conv => whnf)
    | (refine c_spec_l01Matrix.call ?_; conv => whnf)
    | (refine c_spec_l01Matrix.quiet ?_; conv => whnf)
    | (refine c_spec_l01DetOf.call ?_; conv => whnf)
    | (refine c_spec_l01DetOf.quiet ?_; conv => whnf)
    | (refine draw_auto (by decide +kernel) ?_; conv => whnf)
    | (refine draw_asg (by decide +kernel) ?_; conv => whnf)
    | (refine draw_st (by decide +kernel) ?_; conv => whnf)
    | (refine draw_call (by decide +kernel) ?_; conv => whnf)
    | (refine enter_same (loop_n 12 ?_); conv => whnf)
    | (refine next_same ?_; conv => whnf)
    | (refine mapK_row (by assumption) ?_; conv => whnf)
    | (refine mapK_plain (Plain.of rfl) ?_; conv => whnf)
    | (refine mapK_lit ?_; conv => whnf)
    | (refine br_split (fun _ => ?_) (fun _ => ?_) <;> conv => whnf)
    | exact (rfl : (_ : Value) = _)
    | (simp only [*]; exact (rfl : (_ : Value) = _))
    | (simp [*]; done))

set_option maxHeartbeats 1000000 in
theorem c_impl_WordOfMatrix_ok {w x y z : Int} {m : List UInt8} (h1 : isPtF w x = true) (h2 : isPtF y z = true) (hd : detF w x y z = 1) (hm : WMat w x y z) (hp : wordL 200 w x y z = some m) : CallOK Try.prog n_impl_WordOfMatrix [q4 w x y z] [] (fun v m_ => v = t2 (.string ⟨m.toArray⟩) (ii (0)) ∧ m_ = []) := by
  refine callOK_ofF good fn_impl_WordOfMatrix ?_
  conv => whnf
  all_goals (repeat' first
    | (refine br_unit ?_; conv => whnf)
    | (refine br_true (b := decide (detF w x y z = 1)) (decide_eq_true hd) ?_; conv => whnf)
    | (refine br_true (b := isPtF w x && isPtF y z) (by rw [h1, h2]; rfl) ?_; conv => whnf)
    | (refine br_false (min4_ok hm) ?_; conv => whnf)
    | (refine enter_forget [0, 1] (loop_rec (fun (s : (Int × Int × Int × Int) ⊕ (Int × Int × Int × Int × List Value × List Value × Nat × Nat × List UInt8)) => match s with | .inl (a, b, c, d) => [wild, .pointer (some ⟨0, 0, none⟩), wild, wild, .pointer (some ⟨1, 0, none⟩), wild, wild, wild, wild, wild, wild, wild, wild, wild, wild, wild, wild, wild, wild, wild, wild, wild, wild, wild, wild, wild, wild, wild, wild, wild, wild, wild, wild, wild, wild, wild, wild, wild, wild, wild, wild, wild, wild, wild, wild, wild, wild, wild, wild, wild, wild, wild, wild, wild, wild, wild, wild, wild, wild, wild, wild, wild, wild, wild, wild, wild] | .inr (a, b, c, d, L, sp, n, k, l) => [wild, .pointer (some ⟨0, 0, none⟩), wild, wild, .pointer (some ⟨1, 0, none⟩), wild, wild, wild, wild, wild, wild, wild, wild, wild, wild, wild, wild, wild, wild, wild, wild, wild, wild, wild, wild, wild, wild, wild, wild, wild, wild, wild, wild, wild, wild, wild, wild, wild, wild, wild, wild, wild, wild, wild, wild, wild, wild, wild, wild, wild, wild, wild, wild, wild, wild, wild, wild, wild, wild, wild, wild, wild, wild, wild, wild, wild]) (fun (s : (Int × Int × Int × Int) ⊕ (Int × Int × Int × Int × List Value × List Value × Nat × Nat × List UInt8)) => match s with | .inl (a, b, c, d) => [([ii a, ii b, ii c, ii d], some t_impl_Matrix), ([.pointer none, .slice none 0 0], some 82)] | .inr (a, b, c, d, L, sp, n, k, l) => [([ii a, ii b, ii c, ii d], some t_impl_Matrix), ([.pointer (some ⟨1, 0, none⟩), .slice (some ⟨2, 0, none⟩) n k], some 82), (L ++ sp, some 5)]) (fun (s : (Int × Int × Int × Int) ⊕ (Int × Int × Int × Int × List Value × List Value × Nat × Nat × List UInt8)) => match s with | .inl (a, b, c, d) => 201 | .inr (a, b, c, d, L, sp, n, k, l) => 200 - l.length) (fun (s : (Int × Int × Int × Int) ⊕ (Int × Int × Int × Int × List Value × List Value × Nat × Nat × List UInt8)) => match s with | .inl (a, b, c, d) => WrdI w x y z a b c d [] | .inr (a, b, c, d, L, sp, n, k, l) => WrdB w x y z a b c d L sp n k l) (.inl (w, x, y, z)) (WrdI.start hm) ?_) (tmR_rfl rfl rfl) ⟨⟨⟨_, rfl, .plain rfl rfl (by first | exact Plain.of rfl | exact Row.all (by assumption))⟩⟩, ⟨⟨_, rfl, .lit rfl rfl (fun v hv => okB0_spec (allL_spec rfl v hv))⟩⟩, trivial⟩ rfl rfl; rintro fuel_ (⟨a, b, c, d⟩ | ⟨a, b, c, d, L, sp, n, k, l⟩) hI IH <;> first | (replace hI : WrdI w x y z a b c d [] := hI; conv => whnf) | (replace hI : WrdB w x y z a b c d L sp n k l := hI; conv => whnf))
    | (refine CallOK.useR c_Len_fresh [1] rfl rfl rfl ⟨⟨⟨_, rfl, .lit rfl (fun _ h_ => by first | exact h_ | cases h_) (fun v hv => okB0_spec (allL_spec rfl v hv))⟩⟩, trivial⟩ (fun v_ mem_ hR => ?_); obtain ⟨rfl, rfl⟩ := hR; refine ⟨rfl, ?_⟩; conv => whnf)
    | (have hrI_ := hI.row; refine CallOK.useR (c_Len_used hrI_) [1, 2] rfl rfl rfl ⟨⟨⟨_, rfl, .lit rfl (fun _ h_ => by first | exact h_ | cases h_) (fun v hv => okB0_spec (allL_spec rfl v hv))⟩⟩, ⟨⟨_, rfl, .plain rfl (fun _ h_ => by first | exact h_ | cases h_) (Row.all hI.row)⟩⟩, trivial⟩ (fun v_ mem_ hR => ?_); obtain ⟨rfl, rfl⟩ := hR; refine ⟨rfl, ?_⟩; conv => whnf)
    | (refine CallOK.useR (c_Write_fresh (s := ⟨#[76]⟩) (by decide) (by decide)) [1] rfl rfl rfl ⟨⟨⟨_, rfl, .lit rfl (fun _ h_ => by first | exact h_ | cases h_) (fun v hv => okB0_spec (allL_spec rfl v hv))⟩⟩, trivial⟩ (fun v_ mem_ hR => ?_); obtain ⟨c_, sp_, hrow_, rfl, rfl⟩ := hR; refine ⟨rfl, ?_⟩; conv => whnf)
    | (have hrI_ := hI.row; refine CallOK.useR (c_Write_used (s := ⟨#[76]⟩) hrI_ (by have := hI.num; have := hI.inv.len; omega) (by decide)) [1, 2] rfl rfl rfl ⟨⟨⟨_, rfl, .lit rfl (fun _ h_ => by first | exact h_ | cases h_) (fun v hv => okB0_spec (allL_spec rfl v hv))⟩⟩, ⟨⟨_, rfl, .plain rfl (fun _ h_ => by first | exact h_ | cases h_) (Row.all hI.row)⟩⟩, trivial⟩ (fun v_ mem_ hR => ?_); rcases hR with ⟨rfl, ⟨sp_, hrow_, rfl⟩ | ⟨c_, sp_, hrow_, rfl⟩⟩ <;> (refine ⟨rfl, ?_⟩; conv => whnf))
    | (refine CallOK.useR (c_Write_fresh (s := ⟨#[82]⟩) (by decide) (by decide)) [1] rfl rfl rfl ⟨⟨⟨_, rfl, .lit rfl (fun _ h_ => by first | exact h_ | cases h_) (fun v hv => okB0_spec (allL_spec rfl v hv))⟩⟩, trivial⟩ (fun v_ mem_ hR => ?_); obtain ⟨c_, sp_, hrow_, rfl, rfl⟩ := hR; refine ⟨rfl, ?_⟩; conv => whnf)
    | (have hrI_ := hI.row; refine CallOK.useR (c_Write_used (s := ⟨#[82]⟩) hrI_ (by have := hI.num; have := hI.inv.len; omega) (by decide)) [1, 2] rfl rfl rfl ⟨⟨⟨_, rfl, .lit rfl (fun _ h_ => by first | exact h_ | cases h_) (fun v hv => okB0_spec (allL_spec rfl v hv))⟩⟩, ⟨⟨_, rfl, .plain rfl (fun _ h_ => by first | exact h_ | cases h_) (Row.all hI.row)⟩⟩, trivial⟩ (fun v_ mem_ hR => ?_); rcases hR with ⟨rfl, ⟨sp_, hrow_, rfl⟩ | ⟨c_, sp_, hrow_, rfl⟩⟩ <;> (refine ⟨rfl, ?_⟩; conv => whnf))
    | exact next_forget [0, 1, 2] (IH (.inr (a, b, plusF c (-1) a, plusF d (-1) b, _, _, _, _, _)) (by rw [plusF_neg, plusF_neg]; exact WrdB.left0 hI (by assumption) (by assumption) (by assumption) hrow_) (by show _ < (_ : Nat); show 200 - List.length _ < 201; omega)) (tmR_rfl rfl rfl) ⟨⟨⟨_, rfl, .plain rfl rfl (by first | exact Plain.of rfl | exact Row.all (by assumption))⟩⟩, ⟨⟨_, rfl, .lit rfl rfl (fun v hv => okB0_spec (allL_spec rfl v hv))⟩⟩, ⟨⟨_, rfl, .plain rfl rfl (Row.all hrow_)⟩⟩, trivial⟩ rfl rfl
    | exact next_forget [0, 1, 2] (IH (.inr (a, b, plusF c (-1) a, plusF d (-1) b, _, _, _, _, _)) (by rw [plusF_neg, plusF_neg]; exact WrdB.left hI (by assumption) (by assumption) (by assumption) (by assumption) hrow_) (by show _ < (_ : Nat); exact WrdB.mu hI (by assumption) _)) (tmR_rfl rfl rfl) ⟨⟨⟨_, rfl, .plain rfl rfl (by first | exact Plain.of rfl | exact Row.all (by assumption))⟩⟩, ⟨⟨_, rfl, .lit rfl rfl (fun v hv => okB0_spec (allL_spec rfl v hv))⟩⟩, ⟨⟨_, rfl, .plain rfl rfl (Row.all hrow_)⟩⟩, trivial⟩ rfl rfl
    | exact next_forget [0, 1, 3] (IH (.inr (a, b, plusF c (-1) a, plusF d (-1) b, _, _, _, _, _)) (by rw [plusF_neg, plusF_neg]; exact WrdB.left hI (by assumption) (by assumption) (by assumption) (by assumption) hrow_) (by show _ < (_ : Nat); exact WrdB.mu hI (by assumption) _)) (tmR_rfl rfl rfl) ⟨⟨⟨_, rfl, .plain rfl rfl (by first | exact Plain.of rfl | exact Row.all (by assumption))⟩⟩, ⟨⟨_, rfl, .lit rfl rfl (fun v hv => okB0_spec (allL_spec rfl v hv))⟩⟩, ⟨⟨_, rfl, .plain rfl rfl (Row.all hrow_)⟩⟩, trivial⟩ rfl rfl
    | exact next_forget [0, 1, 2] (IH (.inr (plusF a (-1) c, plusF b (-1) d, c, d, _, _, _, _, _)) (by rw [plusF_neg, plusF_neg]; exact WrdB.right0 hI (by assumption) (no1 (by assumption)) hrow_) (by show _ < (_ : Nat); show 200 - List.length _ < 201; omega)) (tmR_rfl rfl rfl) ⟨⟨⟨_, rfl, .plain rfl rfl (by first | exact Plain.of rfl | exact Row.all (by assumption))⟩⟩, ⟨⟨_, rfl, .lit rfl rfl (fun v hv => okB0_spec (allL_spec rfl v hv))⟩⟩, ⟨⟨_, rfl, .plain rfl rfl (Row.all hrow_)⟩⟩, trivial⟩ rfl rfl
    | exact next_forget [0, 1, 2] (IH (.inr (plusF a (-1) c, plusF b (-1) d, c, d, _, _, _, _, _)) (by rw [plusF_neg, plusF_neg]; exact WrdB.right' hI (by assumption) (by assumption) (no1 (by assumption)) hrow_) (by show _ < (_ : Nat); exact WrdB.mu hI (by assumption) _)) (tmR_rfl rfl rfl) ⟨⟨⟨_, rfl, .plain rfl rfl (by first | exact Plain.of rfl | exact Row.all (by assumption))⟩⟩, ⟨⟨_, rfl, .lit rfl rfl (fun v hv => okB0_spec (allL_spec rfl v hv))⟩⟩, ⟨⟨_, rfl, .plain rfl rfl (Row.all hrow_)⟩⟩, trivial⟩ rfl rfl
    | exact next_forget [0, 1, 3] (IH (.inr (plusF a (-1) c, plusF b (-1) d, c, d, _, _, _, _, _)) (by rw [plusF_neg, plusF_neg]; exact WrdB.right' hI (by assumption) (by assumption) (no1 (by assumption)) hrow_) (by show _ < (_ : Nat); exact WrdB.mu hI (by assumption) _)) (tmR_rfl rfl rfl) ⟨⟨⟨_, rfl, .plain rfl rfl (by first | exact Plain.of rfl | exact Row.all (by assumption))⟩⟩, ⟨⟨_, rfl, .lit rfl rfl (fun v hv => okB0_spec (allL_spec rfl v hv))⟩⟩, ⟨⟨_, rfl, .plain rfl rfl (Row.all hrow_)⟩⟩, trivial⟩ rfl rfl
    | exact next_forget [0, 1, 2] (IH (.inr (plusF a (-1) c, plusF b (-1) d, c, d, _, _, _, _, _)) (by rw [plusF_neg, plusF_neg]; exact WrdB.right0 hI (by assumption) (no2 (by assumption)) hrow_) (by show _ < (_ : Nat); show 200 - List.length _ < 201; omega)) (tmR_rfl rfl rfl) ⟨⟨⟨_, rfl, .plain rfl rfl (by first | exact Plain.of rfl | exact Row.all (by assumption))⟩⟩, ⟨⟨_, rfl, .lit rfl rfl (fun v hv => okB0_spec (allL_spec rfl v hv))⟩⟩, ⟨⟨_, rfl, .plain rfl rfl (Row.all hrow_)⟩⟩, trivial⟩ rfl rfl
    | exact next_forget [0, 1, 2] (IH (.inr (plusF a (-1) c, plusF b (-1) d, c, d, _, _, _, _, _)) (by rw [plusF_neg, plusF_neg]; exact WrdB.right' hI (by assumption) (by assumption) (no2 (by assumption)) hrow_) (by show _ < (_ : Nat); exact WrdB.mu hI (by assumption) _)) (tmR_rfl rfl rfl) ⟨⟨⟨_, rfl, .plain rfl rfl (by first | exact Plain.of rfl | exact Row.all (by assumption))⟩⟩, ⟨⟨_, rfl, .lit rfl rfl (fun v hv => okB0_spec (allL_spec rfl v hv))⟩⟩, ⟨⟨_, rfl, .plain rfl rfl (Row.all hrow_)⟩⟩, trivial⟩ rfl rfl
    | exact next_forget [0, 1, 3] (IH (.inr (plusF a (-1) c, plusF b (-1) d, c, d, _, _, _, _, _)) (by rw [plusF_neg, plusF_neg]; exact WrdB.right' hI (by assumption) (by assumption) (no2 (by assumption)) hrow_) (by show _ < (_ : Nat); exact WrdB.mu hI (by assumption) _)) (tmR_rfl rfl rfl) ⟨⟨⟨_, rfl, .plain rfl rfl (by first | exact Plain.of rfl | exact Row.all (by assumption))⟩⟩, ⟨⟨_, rfl, .lit rfl rfl (fun v hv => okB0_spec (allL_spec rfl v hv))⟩⟩, ⟨⟨_, rfl, .plain rfl rfl (Row.all hrow_)⟩⟩, trivial⟩ rfl rfl
    | (exfalso; exact hI.nlim (by assumption) (by assumption) hp)
    | (obtain rfl := WrdI.fin0 hI (by assumption) hp; refine CallQ.call (string_nil_q (b := 1) rfl) ?_; conv => whnf)
    | (obtain rfl := WrdB.fin hI (by assumption) hp; have hnum_ := hI.num; obtain ⟨hi1_, hi2_, rfl, hi4_⟩ := hI; refine string_c (b := 1) (r := 2) (l := l) (sp := sp) fn_strings_Builder_String.enters string_row rfl rfl hnum_ (by have := hi2_.cap; rw [Lib.byteCells_length] at this; omega) hi4_ (by have := hi1_.len; omega) ?_; conv => whnf)
    | exact out_forget [] ⟨rfl, rfl⟩ rfl (okB2_spec rfl) trivial rfl rfl
    | (refine StoreK.mk rfl ?_; conv => whnf)
    | exact join_same
    | exact (by assumption : (_ : Bool) = (_ : Bool))
    | (refine br_true (by assumption) ?_; conv => whnf)
    | (refine br_false (by assumption) ?_; conv => whnf)
    | (refine br_not ?_; conv => whnf)
    | (refine br_code ?_; conv => whnf)
    | (with_reducible refine br_and ?_; conv => whnf)
    | (with_reducible refine br_or ?_; conv => whnf)
    | (refine br_eq2 ?_; conv => whnf)
    | (refine c_impl_IsMatrix.call ?_; conv => whnf)
    | (refine c_impl_IsMatrix.quiet ?_; conv => whnf)
    | (refine c_impl_Matrix_det.call ?_; conv => whnf)
    | (refine c_impl_Matrix_det.quiet ?_; conv => whnf)
    | (refine c_impl_unit.call ?_; conv => whnf)
    | (refine c_impl_unit.quiet ?_; conv => whnf)
    | (refine c_impl_Point_less.call ?_; conv => whnf)
    | (refine c_impl_Point_less.quiet ?_; conv => whnf)
    | (refine draw_auto (by decide +kernel) ?_; conv => whnf)
    | (refine draw_asg (by decide +kernel) ?_; conv => whnf)
    | (refine draw_st (by decide +kernel) ?_; conv => whnf)
    | (refine draw_call (by decide +kernel) ?_; conv => whnf)
    | (refine enter_same (loop_n 12 ?_); conv => whnf)
    | (refine next_same ?_; conv => whnf)
    | (refine mapK_row (by assumption) ?_; conv => whnf)
    | (refine mapK_plain (Plain.of rfl) ?_; conv => whnf)
    | (refine mapK_lit ?_; conv => whnf)
    | (refine br_split (fun _ => ?_) (fun _ => ?_) <;> conv => whnf)
    | exact (rfl : (_ : Value) = _)
    | (simp only [*]; exact (rfl : (_ : Value) = _))
    | (simp [plusF_neg, *]; done))

set_option maxHeartbeats 1000000 in
theorem c_spec_WordOfMatrix_lim {w x y z : Int} (h1 : isPtF w x = true) (h2 : isPtF y z = true) (hd : detF w x y z = 1) (hm : WMat w x y z) (hp : wordL 200 w x y z = none) : CallOK Try.prog n_spec_WordOfMatrix [q4 w x y z] [] (fun v m_ => v = t2 (.string ⟨#[]⟩) (ii (3)) ∧ m_ = []) := by
  refine callOK_ofF good fn_spec_WordOfMatrix ?_
  conv => whnf
  all_goals (repeat' first
    | (refine br_unit ?_; conv => whnf)
    | (refine br_true (b := decide (detF w x y z = 1)) (decide_eq_true hd) ?_; conv => whnf)
    | (refine br_true (b := isPtF w x && isPtF y z) (by rw [h1, h2]; rfl) ?_; conv => whnf)
    | (refine br_false (b := decide (w < 0)) (decide_eq_false (by have := hm.a0; omega)) ?_; conv => whnf)
    | (refine br_false (b := decide (x < 0)) (decide_eq_false (by have := hm.b0; omega)) ?_; conv => whnf)
    | (refine br_false (b := decide (y < 0)) (decide_eq_false (by have := hm.c0; omega)) ?_; conv => whnf)
    | (refine br_false (b := decide (z < 0)) (decide_eq_false (by have := hm.d0; omega)) ?_; conv => whnf)
    | (refine enter_forget [0] (loop_rec (fun (s : Int × Int × Int × Int × ByteArray × (List UInt8)) => match s with | (a, b, c, d, s, l) => [wild, .pointer (some ⟨0, 0, none⟩), wild, wild, .string s, wild, wild, wild, wild, wild, wild, wild, wild, wild, wild, wild, wild, wild, wild, wild, wild, wild, wild, wild, wild, wild, wild, wild, wild, wild, wild, wild, wild, wild, wild, wild, wild, wild, wild, wild, wild, wild, wild, wild, wild, wild, wild, wild, wild, wild, wild, wild, wild, wild, wild, wild, wild, wild, wild, wild, wild, wild, wild, wild, wild, wild, wild, wild, wild, wild, wild, wild, wild, wild, wild, wild, wild, wild, wild, wild, wild, wild, wild, wild, wild, wild, wild, wild, wild, wild, wild, wild, wild, wild, wild, wild, wild, wild, wild, wild, wild, wild, wild, wild, wild, wild, wild, wild, wild, wild, wild, wild]) (fun (s : Int × Int × Int × Int × ByteArray × (List UInt8)) => match s with | (a, b, c, d, s, l) => [([ii a, ii b, ii c, ii d], some t_impl_Matrix)]) (fun (s : Int × Int × Int × Int × ByteArray × (List UInt8)) => match s with | (a, b, c, d, s, l) => 200 - l.length) (fun (s : Int × Int × Int × Int × ByteArray × (List UInt8)) => match s with | (a, b, c, d, s, l) => WrdS w x y z a b c d s l) (w, x, y, z, ⟨#[]⟩, []) (WrdS.start hm) ?_) (tmR_rfl rfl rfl) ⟨⟨⟨_, rfl, .plain rfl rfl (by first | exact Plain.of rfl | exact Row.all (by assumption))⟩⟩, trivial⟩ rfl rfl; rintro fuel_ ⟨a, b, c, d, s, l⟩ hI IH; replace hI : WrdS w x y z a b c d s l := hI; conv => whnf)
    | exact next_forget [0] (IH (w64 (a - c), w64 (b - d), c, d, _, _) (by exact hI.right (by assumption) (by assumption) (by assumption) (by assumption)) (by exact hI.mu (by assumption) _)) (tmR_rfl rfl rfl) ⟨⟨⟨_, rfl, .plain rfl rfl (by first | exact Plain.of rfl | exact Row.all (by assumption))⟩⟩, trivial⟩ rfl rfl
    | exact next_forget [0] (IH (a, b, w64 (c - a), w64 (d - b), _, _) (by exact hI.left1 (by assumption) (by assumption) (by assumption)) (by exact hI.mu (by assumption) _)) (tmR_rfl rfl rfl) ⟨⟨⟨_, rfl, .plain rfl rfl (by first | exact Plain.of rfl | exact Row.all (by assumption))⟩⟩, trivial⟩ rfl rfl
    | exact next_forget [0] (IH (a, b, w64 (c - a), w64 (d - b), _, _) (by exact hI.left2 (by assumption) (by assumption) (by assumption)) (by exact hI.mu (by assumption) _)) (tmR_rfl rfl rfl) ⟨⟨⟨_, rfl, .plain rfl rfl (by first | exact Plain.of rfl | exact Row.all (by assumption))⟩⟩, trivial⟩ rfl rfl
    | (refine AddS.mk (by show _ + 1 ≤ _; have := hI.size; have := hI.inv.len; omega) ?_; conv => whnf)
    | (exfalso; exact hI.inv.nfin (by assumption) hp)
    | exact out_forget [] ⟨rfl, rfl⟩ rfl (okB2_spec rfl) trivial rfl rfl
    | (refine StoreK.mk rfl ?_; conv => whnf)
    | exact join_same
    | exact (by assumption : (_ : Bool) = (_ : Bool))
    | (refine br_true (by assumption) ?_; conv => whnf)
    | (refine br_false (by assumption) ?_; conv => whnf)
    | (refine br_not ?_; conv => whnf)
    | (refine br_code ?_; conv => whnf)
    | (with_reducible refine br_and ?_; conv => whnf)
    | (with_reducible refine br_or ?_; conv => whnf)
    | (refine br_eq2 ?_; conv => whnf)
    | (refine c_spec_l01Matrix.call ?_; conv => whnf)
    | (refine c_spec_l01Matrix.quiet ?_; conv => whnf)
    | (refine c_spec_l01DetOf.call ?_; conv => whnf)
    | (refine c_spec_l01DetOf.quiet ?_; conv => whnf)
    | (refine draw_auto (by decide +kernel) ?_; conv => whnf)
    | (refine draw_asg (by decide +kernel) ?_; conv => whnf)
    | (refine draw_st (by decide +kernel) ?_; conv => whnf)
    | (refine draw_call (by decide +kernel) ?_; conv => whnf)
    | (refine enter_same (loop_n 12 ?_); conv => whnf)
    | (refine next_same ?_; conv => whnf)
    | (refine mapK_row (by assumption) ?_; conv => whnf)
    | (refine mapK_plain (Plain.of rfl) ?_; conv => whnf)
    | (refine mapK_lit ?_; conv => whnf)
    | (refine br_split (fun _ => ?_) (fun _ => ?_) <;> conv => whnf)
    | exact (rfl : (_ : Value) = _)
    | (simp only [*]; exact (rfl : (_ : Value) = _))
    | (simp [*]; done))

set_option maxHeartbeats 1000000 in
theorem c_impl_WordOfMatrix_lim {w x y z : Int} (h1 : isPtF w x = true) (h2 : isPtF y z = true) (hd : detF w x y z = 1) (hm : WMat w x y z) (hp : wordL 200 w x y z = none) : CallOK Try.prog n_impl_WordOfMatrix [q4 w x y z] [] (fun v m_ => v = t2 (.string ⟨#[]⟩) (ii (3)) ∧ m_ = []) := by
  refine callOK_ofF good fn_impl_WordOfMatrix ?_
  conv => whnf
  all_goals (repeat' first
    | (refine br_unit ?_; conv => whnf)
    | (refine br_true (b := decide (detF w x y z = 1)) (decide_eq_true hd) ?_; conv => whnf)
    | (refine br_true (b := isPtF w x && isPtF y z) (by rw [h1, h2]; rfl) ?_; conv => whnf)
    | (refine br_false (min4_ok hm) ?_; conv => whnf)
    | (refine enter_forget [0, 1] (loop_rec (fun (s : (Int × Int × Int × Int) ⊕ (Int × Int × Int × Int × List Value × List Value × Nat × Nat × List UInt8)) => match s with | .inl (a, b, c, d) => [wild, .pointer (some ⟨0, 0, none⟩), wild, wild, .pointer (some ⟨1, 0, none⟩), wild, wild, wild, wild, wild, wild, wild, wild, wild, wild, wild, wild, wild, wild, wild, wild, wild, wild, wild, wild, wild, wild, wild, wild, wild, wild, wild, wild, wild, wild, wild, wild, wild, wild, wild, wild, wild, wild, wild, wild, wild, wild, wild, wild, wild, wild, wild, wild, wild, wild, wild, wild, wild, wild, wild, wild, wild, wild, wild, wild, wild] | .inr (a, b, c, d, L, sp, n, k, l) => [wild, .pointer (some ⟨0, 0, none⟩), wild, wild, .pointer (some ⟨1, 0, none⟩), wild, wild, wild, wild, wild, wild, wild, wild, wild, wild, wild, wild, wild, wild, wild, wild, wild, wild, wild, wild, wild, wild, wild, wild, wild, wild, wild, wild, wild, wild, wild, wild, wild, wild, wild, wild, wild, wild, wild, wild, wild, wild, wild, wild, wild, wild, wild, wild, wild, wild, wild, wild, wild, wild, wild, wild, wild, wild, wild, wild, wild]) (fun (s : (Int × Int × Int × Int) ⊕ (Int × Int × Int × Int × List Value × List Value × Nat × Nat × List UInt8)) => match s with | .inl (a, b, c, d) => [([ii a, ii b, ii c, ii d], some t_impl_Matrix), ([.pointer none, .slice none 0 0], some 82)] | .inr (a, b, c, d, L, sp, n, k, l) => [([ii a, ii b, ii c, ii d], some t_impl_Matrix), ([.pointer (some ⟨1, 0, none⟩), .slice (some ⟨2, 0, none⟩) n k], some 82), (L ++ sp, some 5)]) (fun (s : (Int × Int × Int × Int) ⊕ (Int × Int × Int × Int × List Value × List Value × Nat × Nat × List UInt8)) => match s with | .inl (a, b, c, d) => 201 | .inr (a, b, c, d, L, sp, n, k, l) => 200 - l.length) (fun (s : (Int × Int × Int × Int) ⊕ (Int × Int × Int × Int × List Value × List Value × Nat × Nat × List UInt8)) => match s with | .inl (a, b, c, d) => WrdI w x y z a b c d [] | .inr (a, b, c, d, L, sp, n, k, l) => WrdB w x y z a b c d L sp n k l) (.inl (w, x, y, z)) (WrdI.start hm) ?_) (tmR_rfl rfl rfl) ⟨⟨⟨_, rfl, .plain rfl rfl (by first | exact Plain.of rfl | exact Row.all (by assumption))⟩⟩, ⟨⟨_, rfl, .lit rfl rfl (fun v hv => okB0_spec (allL_spec rfl v hv))⟩⟩, trivial⟩ rfl rfl; rintro fuel_ (⟨a, b, c, d⟩ | ⟨a, b, c, d, L, sp, n, k, l⟩) hI IH <;> first | (replace hI : WrdI w x y z a b c d [] := hI; conv => whnf) | (replace hI : WrdB w x y z a b c d L sp n k l := hI; conv => whnf))
    | (refine CallOK.useR c_Len_fresh [1] rfl rfl rfl ⟨⟨⟨_, rfl, .lit rfl (fun _ h_ => by first | exact h_ | cases h_) (fun v hv => okB0_spec (allL_spec rfl v hv))⟩⟩, trivial⟩ (fun v_ mem_ hR => ?_); obtain ⟨rfl, rfl⟩ := hR; refine ⟨rfl, ?_⟩; conv => whnf)
    | (have hrI_ := hI.row; refine CallOK.useR (c_Len_used hrI_) [1, 2] rfl rfl rfl ⟨⟨⟨_, rfl, .lit rfl (fun _ h_ => by first | exact h_ | cases h_) (fun v hv => okB0_spec (allL_spec rfl v hv))⟩⟩, ⟨⟨_, rfl, .plain rfl (fun _ h_ => by first | exact h_ | cases h_) (Row.all hI.row)⟩⟩, trivial⟩ (fun v_ mem_ hR => ?_); obtain ⟨rfl, rfl⟩ := hR; refine ⟨rfl, ?_⟩; conv => whnf)
    | (refine CallOK.useR (c_Write_fresh (s := ⟨#[76]⟩) (by decide) (by decide)) [1] rfl rfl rfl ⟨⟨⟨_, rfl, .lit rfl (fun _ h_ => by first | exact h_ | cases h_) (fun v hv => okB0_spec (allL_spec rfl v hv))⟩⟩, trivial⟩ (fun v_ mem_ hR => ?_); obtain ⟨c_, sp_, hrow_, rfl, rfl⟩ := hR; refine ⟨rfl, ?_⟩; conv => whnf)
    | (have hrI_ := hI.row; refine CallOK.useR (c_Write_used (s := ⟨#[76]⟩) hrI_ (by have := hI.num; have := hI.inv.len; omega) (by decide)) [1, 2] rfl rfl rfl ⟨⟨⟨_, rfl, .lit rfl (fun _ h_ => by first | exact h_ | cases h_) (fun v hv => okB0_spec (allL_spec rfl v hv))⟩⟩, ⟨⟨_, rfl, .plain rfl (fun _ h_ => by first | exact h_ | cases h_) (Row.all hI.row)⟩⟩, trivial⟩ (fun v_ mem_ hR => ?_); rcases hR with ⟨rfl, ⟨sp_, hrow_, rfl⟩ | ⟨c_, sp_, hrow_, rfl⟩⟩ <;> (refine ⟨rfl, ?_⟩; conv => whnf))
    | (refine CallOK.useR (c_Write_fresh (s := ⟨#[82]⟩) (by decide) (by decide)) [1] rfl rfl rfl ⟨⟨⟨_, rfl, .lit rfl (fun _ h_ => by first | exact h_ | cases h_) (fun v hv => okB0_spec (allL_spec rfl v hv))⟩⟩, trivial⟩ (fun v_ mem_ hR => ?_); obtain ⟨c_, sp_, hrow_, rfl, rfl⟩ := hR; refine ⟨rfl, ?_⟩; conv => whnf)
    | (have hrI_ := hI.row; refine CallOK.useR (c_Write_used (s := ⟨#[82]⟩) hrI_ (by have := hI.num; have := hI.inv.len; omega) (by decide)) [1, 2] rfl rfl rfl ⟨⟨⟨_, rfl, .lit rfl (fun _ h_ => by first | exact h_ | cases h_) (fun v hv => okB0_spec (allL_spec rfl v hv))⟩⟩, ⟨⟨_, rfl, .plain rfl (fun _ h_ => by first | exact h_ | cases h_) (Row.all hI.row)⟩⟩, trivial⟩ (fun v_ mem_ hR => ?_); rcases hR with ⟨rfl, ⟨sp_, hrow_, rfl⟩ | ⟨c_, sp_, hrow_, rfl⟩⟩ <;> (refine ⟨rfl, ?_⟩; conv => whnf))
    | exact next_forget [0, 1, 2] (IH (.inr (a, b, plusF c (-1) a, plusF d (-1) b, _, _, _, _, _)) (by rw [plusF_neg, plusF_neg]; exact WrdB.left0 hI (by assumption) (by assumption) (by assumption) hrow_) (by show _ < (_ : Nat); show 200 - List.length _ < 201; omega)) (tmR_rfl rfl rfl) ⟨⟨⟨_, rfl, .plain rfl rfl (by first | exact Plain.of rfl | exact Row.all (by assumption))⟩⟩, ⟨⟨_, rfl, .lit rfl rfl (fun v hv => okB0_spec (allL_spec rfl v hv))⟩⟩, ⟨⟨_, rfl, .plain rfl rfl (Row.all hrow_)⟩⟩, trivial⟩ rfl rfl
    | exact next_forget [0, 1, 2] (IH (.inr (a, b, plusF c (-1) a, plusF d (-1) b, _, _, _, _, _)) (by rw [plusF_neg, plusF_neg]; exact WrdB.left hI (by assumption) (by assumption) (by assumption) (by assumption) hrow_) (by show _ < (_ : Nat); exact WrdB.mu hI (by assumption) _)) (tmR_rfl rfl rfl) ⟨⟨⟨_, rfl, .plain rfl rfl (by first | exact Plain.of rfl | exact Row.all (by assumption))⟩⟩, ⟨⟨_, rfl, .lit rfl rfl (fun v hv => okB0_spec (allL_spec rfl v hv))⟩⟩, ⟨⟨_, rfl, .plain rfl rfl (Row.all hrow_)⟩⟩, trivial⟩ rfl rfl
    | exact next_forget [0, 1, 3] (IH (.inr (a, b, plusF c (-1) a, plusF d (-1) b, _, _, _, _, _)) (by rw [plusF_neg, plusF_neg]; exact WrdB.left hI (by assumption) (by assumption) (by assumption) (by assumption) hrow_) (by show _ < (_ : Nat); exact WrdB.mu hI (by assumption) _)) (tmR_rfl rfl rfl) ⟨⟨⟨_, rfl, .plain rfl rfl (by first | exact Plain.of rfl | exact Row.all (by assumption))⟩⟩, ⟨⟨_, rfl, .lit rfl rfl (fun v hv => okB0_spec (allL_spec rfl v hv))⟩⟩, ⟨⟨_, rfl, .plain rfl rfl (Row.all hrow_)⟩⟩, trivial⟩ rfl rfl
    | exact next_forget [0, 1, 2] (IH (.inr (plusF a (-1) c, plusF b (-1) d, c, d, _, _, _, _, _)) (by rw [plusF_neg, plusF_neg]; exact WrdB.right0 hI (by assumption) (no1 (by assumption)) hrow_) (by show _ < (_ : Nat); show 200 - List.length _ < 201; omega)) (tmR_rfl rfl rfl) ⟨⟨⟨_, rfl, .plain rfl rfl (by first | exact Plain.of rfl | exact Row.all (by assumption))⟩⟩, ⟨⟨_, rfl, .lit rfl rfl (fun v hv => okB0_spec (allL_spec rfl v hv))⟩⟩, ⟨⟨_, rfl, .plain rfl rfl (Row.all hrow_)⟩⟩, trivial⟩ rfl rfl
    | exact next_forget [0, 1, 2] (IH (.inr (plusF a (-1) c, plusF b (-1) d, c, d, _, _, _, _, _)) (by rw [plusF_neg, plusF_neg]; exact WrdB.right' hI (by assumption) (by assumption) (no1 (by assumption)) hrow_) (by show _ < (_ : Nat); exact WrdB.mu hI (by assumption) _)) (tmR_rfl rfl rfl) ⟨⟨⟨_, rfl, .plain rfl rfl (by first | exact Plain.of rfl | exact Row.all (by assumption))⟩⟩, ⟨⟨_, rfl, .lit rfl rfl (fun v hv => okB0_spec (allL_spec rfl v hv))⟩⟩, ⟨⟨_, rfl, .plain rfl rfl (Row.all hrow_)⟩⟩, trivial⟩ rfl rfl
    | exact next_forget [0, 1, 3] (IH (.inr (plusF a (-1) c, plusF b (-1) d, c, d, _, _, _, _, _)) (by rw [plusF_neg, plusF_neg]; exact WrdB.right' hI (by assumption) (by assumption) (no1 (by assumption)) hrow_) (by show _ < (_ : Nat); exact WrdB.mu hI (by assumption) _)) (tmR_rfl rfl rfl) ⟨⟨⟨_, rfl, .plain rfl rfl (by first | exact Plain.of rfl | exact Row.all (by assumption))⟩⟩, ⟨⟨_, rfl, .lit rfl rfl (fun v hv => okB0_spec (allL_spec rfl v hv))⟩⟩, ⟨⟨_, rfl, .plain rfl rfl (Row.all hrow_)⟩⟩, trivial⟩ rfl rfl
    | exact next_forget [0, 1, 2] (IH (.inr (plusF a (-1) c, plusF b (-1) d, c, d, _, _, _, _, _)) (by rw [plusF_neg, plusF_neg]; exact WrdB.right0 hI (by assumption) (no2 (by assumption)) hrow_) (by show _ < (_ : Nat); show 200 - List.length _ < 201; omega)) (tmR_rfl rfl rfl) ⟨⟨⟨_, rfl, .plain rfl rfl (by first | exact Plain.of rfl | exact Row.all (by assumption))⟩⟩, ⟨⟨_, rfl, .lit rfl rfl (fun v hv => okB0_spec (allL_spec rfl v hv))⟩⟩, ⟨⟨_, rfl, .plain rfl rfl (Row.all hrow_)⟩⟩, trivial⟩ rfl rfl
    | exact next_forget [0, 1, 2] (IH (.inr (plusF a (-1) c, plusF b (-1) d, c, d, _, _, _, _, _)) (by rw [plusF_neg, plusF_neg]; exact WrdB.right' hI (by assumption) (by assumption) (no2 (by assumption)) hrow_) (by show _ < (_ : Nat); exact WrdB.mu hI (by assumption) _)) (tmR_rfl rfl rfl) ⟨⟨⟨_, rfl, .plain rfl rfl (by first | exact Plain.of rfl | exact Row.all (by assumption))⟩⟩, ⟨⟨_, rfl, .lit rfl rfl (fun v hv => okB0_spec (allL_spec rfl v hv))⟩⟩, ⟨⟨_, rfl, .plain rfl rfl (Row.all hrow_)⟩⟩, trivial⟩ rfl rfl
    | exact next_forget [0, 1, 3] (IH (.inr (plusF a (-1) c, plusF b (-1) d, c, d, _, _, _, _, _)) (by rw [plusF_neg, plusF_neg]; exact WrdB.right' hI (by assumption) (by assumption) (no2 (by assumption)) hrow_) (by show _ < (_ : Nat); exact WrdB.mu hI (by assumption) _)) (tmR_rfl rfl rfl) ⟨⟨⟨_, rfl, .plain rfl rfl (by first | exact Plain.of rfl | exact Row.all (by assumption))⟩⟩, ⟨⟨_, rfl, .lit rfl rfl (fun v hv => okB0_spec (allL_spec rfl v hv))⟩⟩, ⟨⟨_, rfl, .plain rfl rfl (Row.all hrow_)⟩⟩, trivial⟩ rfl rfl
    | (exfalso; exact WrdI.nfin hI (by assumption) hp)
    | (exfalso; exact WrdI.nfin hI.inv (by assumption) hp)
    | exact out_forget [] ⟨rfl, rfl⟩ rfl (okB2_spec rfl) trivial rfl rfl
    | (refine StoreK.mk rfl ?_; conv => whnf)
    | exact join_same
    | exact (by assumption : (_ : Bool) = (_ : Bool))
    | (refine br_true (by assumption) ?_; conv => whnf)
    | (refine br_false (by assumption) ?_; conv => whnf)
    | (refine br_not ?_; conv => whnf)
    | (refine br_code ?_; conv => whnf)
    | (with_reducible refine br_and ?_; conv => whnf)
    | (with_reducible refine br_or ?_; conv => whnf)
    | (refine br_eq2 ?_; conv => whnf)
    | (refine c_impl_IsMatrix.call ?_; conv => whnf)
    | (refine c_impl_IsMatrix.quiet ?_; conv => whnf)
    | (refine c_impl_Matrix_det.call ?_; conv => whnf)
    | (refine c_impl_Matrix_det.quiet ?_; conv => whnf)
    | (refine c_impl_unit.call ?_; conv => whnf)
    | (refine c_impl_unit.quiet ?_; conv => whnf)
    | (refine c_impl_Point_less.call ?_; conv => whnf)
    | (refine c_impl_Point_less.quiet ?_; conv => whnf)
    | (refine draw_auto (by decide +kernel) ?_; conv => whnf)
    | (refine draw_asg (by decide +kernel) ?_; conv => whnf)
    | (refine draw_st (by decide +kernel) ?_; conv => whnf)
    | (refine draw_call (by decide +kernel) ?_; conv => whnf)
    | (refine enter_same (loop_n 12 ?_); conv => whnf)
    | (refine next_same ?_; conv => whnf)
    | (refine mapK_row (by assumption) ?_; conv => whnf)
    | (refine mapK_plain (Plain.of rfl) ?_; conv => whnf)
    | (refine mapK_lit ?_; conv => whnf)
    | (refine br_split (fun _ => ?_) (fun _ => ?_) <;> conv => whnf)
    | exact (rfl : (_ : Value) = _)
    | (simp only [*]; exact (rfl : (_ : Value) = _))
    | (simp [plusF_neg, *]; done))

set_option maxHeartbeats 1000000 in
theorem c_spec_WordOfMatrix_st {w x y z : Int} (h1 : isPtF w x = true) (h2 : isPtF y z = true) (hd : detF w x y z = 1) (hs : ¬ (0 ≤ w ∧ 0 ≤ x ∧ 0 ≤ y ∧ 0 ≤ z)) : CallOK Try.prog n_spec_WordOfMatrix [q4 w x y z] [] (fun v m_ => v = t2 (.string ⟨#[]⟩) (ii (5)) ∧ m_ = []) := by
  refine callOK_ofF good fn_spec_WordOfMatrix ?_
  conv => whnf
  all_goals (repeat' first
    | (refine br_unit ?_; conv => whnf)
    | (refine br_true (b := decide (detF w x y z = 1)) (decide_eq_true hd) ?_; conv => whnf)
    | (refine br_true (b := isPtF w x && isPtF y z) (by rw [h1, h2]; rfl) ?_; conv => whnf)
    | (exfalso; exact hs ⟨by have := of_decide_eq_false (show decide (w < 0) = false by assumption); omega, by have := of_decide_eq_false (show decide (x < 0) = false by assumption); omega, by have := of_decide_eq_false (show decide (y < 0) = false by assumption); omega, by have := of_decide_eq_false (show decide (z < 0) = false by assumption); omega⟩)
    | exact out_forget [] ⟨rfl, rfl⟩ rfl (okB2_spec rfl) trivial rfl rfl
    | (refine StoreK.mk rfl ?_; conv => whnf)
    | exact join_same
    | exact (by assumption : (_ : Bool) = (_ : Bool))
    | (refine br_true (by assumption) ?_; conv => whnf)
    | (refine br_false (by assumption) ?_; conv => whnf)
    | (refine br_not ?_; conv => whnf)
    | (refine br_code ?_; conv => whnf)
    | (with_reducible refine br_and ?_; conv => whnf)
    | (with_reducible refine br_or ?_; conv => whnf)
    | (refine br_eq2 ?_; conv => whnf)
    | (refine c_spec_l01Matrix.call ?_; conv => whnf)
    | (refine c_spec_l01Matrix.quiet ?_; conv => whnf)
    | (refine c_spec_l01DetOf.call ?_; conv => whnf)
    | (refine c_spec_l01DetOf.quiet ?_; conv => whnf)
    | (refine draw_auto (by decide +kernel) ?_; conv => whnf)
    | (refine draw_asg (by decide +kernel) ?_; conv => whnf)
    | (refine draw_st (by decide +kernel) ?_; conv => whnf)
    | (refine draw_call (by decide +kernel) ?_; conv => whnf)
    | (refine enter_same (loop_n 12 ?_); conv => whnf)
    | (refine next_same ?_; conv => whnf)
    | (refine mapK_row (by assumption) ?_; conv => whnf)
    | (refine mapK_plain (Plain.of rfl) ?_; conv => whnf)
    | (refine mapK_lit ?_; conv => whnf)
    | (refine br_split (fun _ => ?_) (fun _ => ?_) <;> conv => whnf)
    | exact (rfl : (_ : Value) = _)
    | (simp only [*]; exact (rfl : (_ : Value) = _))
    | (simp [*]; done))

set_option maxHeartbeats 1000000 in
theorem c_impl_WordOfMatrix_st {w x y z : Int} (h1 : isPtF w x = true) (h2 : isPtF y z = true) (hd : detF w x y z = 1) (hs : ¬ (0 ≤ w ∧ 0 ≤ x ∧ 0 ≤ y ∧ 0 ≤ z)) : CallOK Try.prog n_impl_WordOfMatrix [q4 w x y z] [] (fun v m_ => v = t2 (.string ⟨#[]⟩) (ii (5)) ∧ m_ = []) := by
  refine callOK_ofF good fn_impl_WordOfMatrix ?_
  conv => whnf
  all_goals (repeat' first
    | (refine br_unit ?_; conv => whnf)
    | (refine br_true (b := decide (detF w x y z = 1)) (decide_eq_true hd) ?_; conv => whnf)
    | (refine br_true (b := isPtF w x && isPtF y z) (by rw [h1, h2]; rfl) ?_; conv => whnf)
    | (refine br_true (min4_no hs) ?_; conv => whnf)
    | exact out_forget [] ⟨rfl, rfl⟩ rfl (okB2_spec rfl) trivial rfl rfl
    | (refine StoreK.mk rfl ?_; conv => whnf)
    | exact join_same
    | exact (by assumption : (_ : Bool) = (_ : Bool))
    | (refine br_true (by assumption) ?_; conv => whnf)
    | (refine br_false (by assumption) ?_; conv => whnf)
    | (refine br_not ?_; conv => whnf)
    | (refine br_code ?_; conv => whnf)
    | (with_reducible refine br_and ?_; conv => whnf)
    | (with_reducible refine br_or ?_; conv => whnf)
    | (refine br_eq2 ?_; conv => whnf)
    | (refine c_impl_IsMatrix.call ?_; conv => whnf)
    | (refine c_impl_IsMatrix.quiet ?_; conv => whnf)
    | (refine c_impl_Matrix_det.call ?_; conv => whnf)
    | (refine c_impl_Matrix_det.quiet ?_; conv => whnf)
    | (refine c_impl_unit.call ?_; conv => whnf)
    | (refine c_impl_unit.quiet ?_; conv => whnf)
    | (refine c_impl_Point_less.call ?_; conv => whnf)
    | (refine c_impl_Point_less.quiet ?_; conv => whnf)
    | (refine draw_auto (by decide +kernel) ?_; conv => whnf)
    | (refine draw_asg (by decide +kernel) ?_; conv => whnf)
    | (refine draw_st (by decide +kernel) ?_; conv => whnf)
    | (refine draw_call (by decide +kernel) ?_; conv => whnf)
    | (refine enter_same (loop_n 12 ?_); conv => whnf)
    | (refine next_same ?_; conv => whnf)
    | (refine mapK_row (by assumption) ?_; conv => whnf)
    | (refine mapK_plain (Plain.of rfl) ?_; conv => whnf)
    | (refine mapK_lit ?_; conv => whnf)
    | (refine br_split (fun _ => ?_) (fun _ => ?_) <;> conv => whnf)
    | exact (rfl : (_ : Value) = _)
    | (simp only [*]; exact (rfl : (_ : Value) = _))
    | (simp [plusF_neg, *]; done))

set_option maxHeartbeats 1000000 in
theorem c_spec_WordOfMatrix_det {w x y z : Int} (h1 : isPtF w x = true) (h2 : isPtF y z = true) (hd : ¬ detF w x y z = 1) : CallOK Try.prog n_spec_WordOfMatrix [q4 w x y z] [] (fun v m_ => v = t2 (.string ⟨#[]⟩) (ii (5)) ∧ m_ = []) := by
  refine callOK_ofF good fn_spec_WordOfMatrix ?_
  conv => whnf
  all_goals (repeat' first
    | (refine br_unit ?_; conv => whnf)
    | (refine br_false (b := decide (detF w x y z = 1)) (decide_eq_false hd) ?_; conv => whnf)
    | (refine br_true (b := isPtF w x && isPtF y z) (by rw [h1, h2]; rfl) ?_; conv => whnf)
    | exact out_forget [] ⟨rfl, rfl⟩ rfl (okB2_spec rfl) trivial rfl rfl
    | (refine StoreK.mk rfl ?_; conv => whnf)
    | exact join_same
    | exact (by assumption : (_ : Bool) = (_ : Bool))
    | (refine br_true (by assumption) ?_; conv => whnf)
    | (refine br_false (by assumption) ?_; conv => whnf)
    | (refine br_not ?_; conv => whnf)
    | (refine br_code ?_; conv => whnf)
    | (with_reducible refine br_and ?_; conv => whnf)
    | (with_reducible refine br_or ?_; conv => whnf)
    | (refine br_eq2 ?_; conv => whnf)
    | (refine c_spec_l01Matrix.call ?_; conv => whnf)
    | (refine c_spec_l01Matrix.quiet ?_; conv => whnf)
    | (refine c_spec_l01DetOf.call ?_; conv => whnf)
    | (refine c_spec_l01DetOf.quiet ?_; conv => whnf)
    | (refine draw_auto (by decide +kernel) ?_; conv => whnf)
    | (refine draw_asg (by decide +kernel) ?_; conv => whnf)
    | (refine draw_st (by decide +kernel) ?_; conv => whnf)
    | (refine draw_call (by decide +kernel) ?_; conv => whnf)
    | (refine enter_same (loop_n 12 ?_); conv => whnf)
    | (refine next_same ?_; conv => whnf)
    | (refine mapK_row (by assumption) ?_; conv => whnf)
    | (refine mapK_plain (Plain.of rfl) ?_; conv => whnf)
    | (refine mapK_lit ?_; conv => whnf)
    | (refine br_split (fun _ => ?_) (fun _ => ?_) <;> conv => whnf)
    | exact (rfl : (_ : Value) = _)
    | (simp only [*]; exact (rfl : (_ : Value) = _))
    | (simp [*]; done))

set_option maxHeartbeats 1000000 in
theorem c_impl_WordOfMatrix_det {w x y z : Int} (h1 : isPtF w x = true) (h2 : isPtF y z = true) (hd : ¬ detF w x y z = 1) : CallOK Try.prog n_impl_WordOfMatrix [q4 w x y z] [] (fun v m_ => v = t2 (.string ⟨#[]⟩) (ii (5)) ∧ m_ = []) := by
  refine callOK_ofF good fn_impl_WordOfMatrix ?_
  conv => whnf
  all_goals (repeat' first
    | (refine br_unit ?_; conv => whnf)
    | (refine br_false (b := decide (detF w x y z = 1)) (decide_eq_false hd) ?_; conv => whnf)
    | (refine br_true (b := isPtF w x && isPtF y z) (by rw [h1, h2]; rfl) ?_; conv => whnf)
    | exact out_forget [] ⟨rfl, rfl⟩ rfl (okB2_spec rfl) trivial rfl rfl
    | (refine StoreK.mk rfl ?_; conv => whnf)
    | exact join_same
    | exact (by assumption : (_ : Bool) = (_ : Bool))
    | (refine br_true (by assumption) ?_; conv => whnf)
    | (refine br_false (by assumption) ?_; conv => whnf)
    | (refine br_not ?_; conv => whnf)
    | (refine br_code ?_; conv => whnf)
    | (with_reducible refine br_and ?_; conv => whnf)
    | (with_reducible refine br_or ?_; conv => whnf)
    | (refine br_eq2 ?_; conv => whnf)
    | (refine c_impl_IsMatrix.call ?_; conv => whnf)
    | (refine c_impl_IsMatrix.quiet ?_; conv => whnf)
    | (refine c_impl_Matrix_det.call ?_; conv => whnf)
    | (refine c_impl_Matrix_det.quiet ?_; conv => whnf)
    | (refine c_impl_unit.call ?_; conv => whnf)
    | (refine c_impl_unit.quiet ?_; conv => whnf)
    | (refine c_impl_Point_less.call ?_; conv => whnf)
    | (refine c_impl_Point_less.quiet ?_; conv => whnf)
    | (refine draw_auto (by decide +kernel) ?_; conv => whnf)
    | (refine draw_asg (by decide +kernel) ?_; conv => whnf)
    | (refine draw_st (by decide +kernel) ?_; conv => whnf)
    | (refine draw_call (by decide +kernel) ?_; conv => whnf)
    | (refine enter_same (loop_n 12 ?_); conv => whnf)
    | (refine next_same ?_; conv => whnf)
    | (refine mapK_row (by assumption) ?_; conv => whnf)
    | (refine mapK_plain (Plain.of rfl) ?_; conv => whnf)
    | (refine mapK_lit ?_; conv => whnf)
    | (refine br_split (fun _ => ?_) (fun _ => ?_) <;> conv => whnf)
    | exact (rfl : (_ : Value) = _)
    | (simp only [*]; exact (rfl : (_ : Value) = _))
    | (simp [plusF_neg, *]; done))

set_option maxHeartbeats 1000000 in
theorem c_spec_WordOfMatrix_bad {w x y z : Int} (h : (isPtF w x && isPtF y z) = false) : CallOK Try.prog n_spec_WordOfMatrix [q4 w x y z] [] (fun v m_ => v = t2 (.string ⟨#[]⟩) (ii (1)) ∧ m_ = []) := by
  refine callOK_ofF good fn_spec_WordOfMatrix ?_
  conv => whnf
  all_goals (repeat' first
    | (refine br_unit ?_; conv => whnf)
    | exact out_forget [] ⟨rfl, rfl⟩ rfl (okB2_spec rfl) trivial rfl rfl
    | (refine StoreK.mk rfl ?_; conv => whnf)
    | exact join_same
    | exact (by assumption : (_ : Bool) = (_ : Bool))
    | (refine br_true (by assumption) ?_; conv => whnf)
    | (refine br_false (by assumption) ?_; conv => whnf)
    | (refine br_not ?_; conv => whnf)
    | (refine br_code ?_; conv => whnf)
    | (with_reducible refine br_and ?_; conv => whnf)
    | (with_reducible refine br_or ?_; conv => whnf)
    | (refine br_eq2 ?_; conv => whnf)
    | (refine c_spec_l01Matrix.call ?_; conv => whnf)
    | (refine c_spec_l01Matrix.quiet ?_; conv => whnf)
    | (refine c_spec_l01DetOf.call ?_; conv => whnf)
    | (refine c_spec_l01DetOf.quiet ?_; conv => whnf)
    | (refine draw_auto (by decide +kernel) ?_; conv => whnf)
    | (refine draw_asg (by decide +kernel) ?_; conv => whnf)
    | (refine draw_st (by decide +kernel) ?_; conv => whnf)
    | (refine draw_call (by decide +kernel) ?_; conv => whnf)
    | (refine enter_same (loop_n 12 ?_); conv => whnf)
    | (refine next_same ?_; conv => whnf)
    | (refine mapK_row (by assumption) ?_; conv => whnf)
    | (refine mapK_plain (Plain.of rfl) ?_; conv => whnf)
    | (refine mapK_lit ?_; conv => whnf)
    | (refine br_split (fun _ => ?_) (fun _ => ?_) <;> conv => whnf)
    | exact (rfl : (_ : Value) = _)
    | (simp only [*]; exact (rfl : (_ : Value) = _))
    | (simp [*]; done))

set_option maxHeartbeats 1000000 in
theorem c_impl_WordOfMatrix_bad {w x y z : Int} (h : (isPtF w x && isPtF y z) = false) : CallOK Try.prog n_impl_WordOfMatrix [q4 w x y z] [] (fun v m_ => v = t2 (.string ⟨#[]⟩) (ii (1)) ∧ m_ = []) := by
  refine callOK_ofF good fn_impl_WordOfMatrix ?_
  conv => whnf
  all_goals (repeat' first
    | (refine br_unit ?_; conv => whnf)
    | exact out_forget [] ⟨rfl, rfl⟩ rfl (okB2_spec rfl) trivial rfl rfl
    | (refine StoreK.mk rfl ?_; conv => whnf)
    | exact join_same
    | exact (by assumption : (_ : Bool) = (_ : Bool))
    | (refine br_true (by assumption) ?_; conv => whnf)
    | (refine br_false (by assumption) ?_; conv => whnf)
    | (refine br_not ?_; conv => whnf)
    | (refine br_code ?_; conv => whnf)
    | (with_reducible refine br_and ?_; conv => whnf)
    | (with_reducible refine br_or ?_; conv => whnf)
    | (refine br_eq2 ?_; conv => whnf)
    | (refine c_impl_IsMatrix.call ?_; conv => whnf)
    | (refine c_impl_IsMatrix.quiet ?_; conv => whnf)
    | (refine c_impl_Matrix_det.call ?_; conv => whnf)
    | (refine c_impl_Matrix_det.quiet ?_; conv => whnf)
    | (refine c_impl_unit.call ?_; conv => whnf)
    | (refine c_impl_unit.quiet ?_; conv => whnf)
    | (refine c_impl_Point_less.call ?_; conv => whnf)
    | (refine c_impl_Point_less.quiet ?_; conv => whnf)
    | (refine draw_auto (by decide +kernel) ?_; conv => whnf)
    | (refine draw_asg (by decide +kernel) ?_; conv => whnf)
    | (refine draw_st (by decide +kernel) ?_; conv => whnf)
    | (refine draw_call (by decide +kernel) ?_; conv => whnf)
    | (refine enter_same (loop_n 12 ?_); conv => whnf)
    | (refine next_same ?_; conv => whnf)
    | (refine mapK_row (by assumption) ?_; conv => whnf)
    | (refine mapK_plain (Plain.of rfl) ?_; conv => whnf)
    | (refine mapK_lit ?_; conv => whnf)
    | (refine br_split (fun _ => ?_) (fun _ => ?_) <;> conv => whnf)
    | exact (rfl : (_ : Value) = _)
    | (simp only [*]; exact (rfl : (_ : Value) = _))
    | (simp [plusF_neg, *]; done))

end Go.Proofs.Ytgbnoaggnfjjgaa
