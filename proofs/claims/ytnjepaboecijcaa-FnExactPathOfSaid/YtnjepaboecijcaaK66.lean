/-
  Contracts of functions of the program (printed by a program of this work; Lean checks each).
  Conditions: as each contract states.
-/
import Derived.Test.YtnjepaboecijcaaK65
import Derived.Test.YtnjepaboecijcaaK3
namespace Go.Proofs.Ytnjepaboecijcaa
open Go.Ev Go.RowKit
set_option maxRecDepth 100000
set_option linter.unusedVariables false
set_option linter.unusedSimpArgs false

attribute [local irreducible] isPtF isFracF pathL

set_option maxHeartbeats 1000000 in
theorem c_spec_PathOf_ok {a b : Int} {m : List UInt8} (hf : isPtF a b = true) (hg : isFracF a b = true) (ha : 1 ≤ a) (hb : 1 ≤ b) (hp : pathL 60 a b = some m) : CallOK Try.prog n_spec_PathOf [pt a b] [] (fun v m_ => v = t2 (.string ⟨m.toArray⟩) (ii (0)) ∧ m_ = []) := by
  refine callOK_ofF good fn_spec_PathOf ?_
  conv => whnf
  all_goals (repeat' first
    | (refine br_true (b := decide (faultF (isPtF a b) (isFracF a b) = 0)) (by rw [hf, hg]; rfl) ?_; conv => whnf)
    | (refine br_false (b := decide (a < 1)) (decide_eq_false (by omega)) ?_; conv => whnf)
    | (refine br_false (b := decide (b < 1)) (decide_eq_false (by omega)) ?_; conv => whnf)
    | (refine enter_forget [0] (loop_rec (fun (s : Int × Int × ByteArray × (List UInt8)) => match s with | (p, q, s, l) => [wild, .pointer (some ⟨0, 0, none⟩), wild, wild, wild, .string s, ii p, ii q, wild, wild, wild, wild, wild, wild, wild, wild, wild, wild, wild, wild, wild, wild, wild, wild, wild, wild, wild, wild, wild, wild, wild, wild, wild, wild, wild, wild, wild, wild, wild, wild, wild, wild, wild, wild, wild, wild]) (fun (s : Int × Int × ByteArray × (List UInt8)) => match s with | (p, q, s, l) => [([ii a, ii b], some t_impl_Point)]) (fun (s : Int × Int × ByteArray × (List UInt8)) => match s with | (p, q, s, l) => 60 - l.length) (fun (s : Int × Int × ByteArray × (List UInt8)) => match s with | (p, q, s, l) => PthS a b p q s l) (a, b, ⟨#[]⟩, []) (PthS.start ha hb hf) ?_) (tmR_rfl rfl rfl) ⟨⟨⟨_, rfl, .plain rfl rfl (by first | exact Plain.of rfl | exact Row.all (by assumption))⟩⟩, trivial⟩ rfl rfl; rintro fuel_ ⟨p, q, s, l⟩ hI IH; replace hI : PthS a b p q s l := hI; conv => whnf)
    | exact next_forget [0] (IH (p, w64 (q - p), _, _) (by exact hI.left (by assumption) (by assumption)) (by exact hI.mu (by assumption) _)) (tmR_rfl rfl rfl) ⟨⟨⟨_, rfl, .plain rfl rfl (by first | exact Plain.of rfl | exact Row.all (by assumption))⟩⟩, trivial⟩ rfl rfl
    | exact next_forget [0] (IH (w64 (p - q), q, _, _) (by exact hI.right (by assumption) (by assumption) (by assumption)) (by exact hI.mu (by assumption) _)) (tmR_rfl rfl rfl) ⟨⟨⟨_, rfl, .plain rfl rfl (by first | exact Plain.of rfl | exact Row.all (by assumption))⟩⟩, trivial⟩ rfl rfl
    | (refine AddS.mk (by show _ + 1 ≤ _; have := hI.size; have := hI.inv.len; omega) ?_; conv => whnf)
    | (exfalso; exact hI.nlim (by assumption) (by assumption) hp)
    | (show OutK _ _ _ _; obtain rfl := hI.fin (by assumption) hp; exact out_forget [] ⟨rfl, rfl⟩ rfl (okB2_spec rfl) trivial rfl rfl)
    | (refine StoreK.mk rfl ?_; conv => whnf)
    | exact join_same
    | exact (by assumption : (_ : Bool) = (_ : Bool))
    | (refine br_true (by assumption) ?_; conv => whnf)
    | (refine br_false (by assumption) ?_; conv => whnf)
    | (refine br_not ?_; conv => whnf)
    | (refine br_code ?_; conv => whnf)
    | (with_reducible refine br_and ?_; conv => whnf)
    | (with_reducible refine br_or ?_; conv => whnf)
    | (refine br_eq2 ?_; conv => whnf)
    | (refine c_l05Code_1.call1 rfl rfl ⟨_, rfl⟩ ?_; conv => whnf)
    | (refine c_l05Code_1.quiet1 rfl rfl ⟨_, rfl⟩ ?_; conv => whnf)
    | (refine c_l05Code_2.call1 rfl rfl ⟨_, rfl⟩ ?_; conv => whnf)
    | (refine c_l05Code_2.quiet1 rfl rfl ⟨_, rfl⟩ ?_; conv => whnf)
    | (refine c_l05Code_3.call1 rfl rfl ⟨_, rfl⟩ ?_; conv => whnf)
    | (refine c_l05Code_3.quiet1 rfl rfl ⟨_, rfl⟩ ?_; conv => whnf)
    | (refine draw_auto (by decide +kernel) ?_; conv => whnf)
    | (refine draw_asg (by decide +kernel) ?_; conv => whnf)
    | (refine draw_st (by decide +kernel) ?_; conv => whnf)
    | (refine draw_call (by decide +kernel) ?_; conv => whnf)
    | (refine enter_same (loop_n 12 ?_); conv => whnf)
    | (refine next_same ?_; conv => whnf)
    | (refine mapK_row (by assumption) ?_; conv => whnf)
    | (refine mapK_plain (Plain.of rfl) ?_; conv => whnf)
    | (refine mapK_lit ?_; conv => whnf)
    | (refine br_split (fun _ => ?_) (fun _ => ?_) <;> conv => whnf)
    | exact (rfl : (_ : Value) = _)
    | (simp only [*]; exact (rfl : (_ : Value) = _))
    | (simp [*]; done))

set_option maxHeartbeats 1000000 in
theorem c_spec_PathOf_lim {a b : Int} (hf : isPtF a b = true) (hg : isFracF a b = true) (ha : 1 ≤ a) (hb : 1 ≤ b) (hp : pathL 60 a b = none) : CallOK Try.prog n_spec_PathOf [pt a b] [] (fun v m_ => v = t2 (.string ⟨#[]⟩) (ii (3)) ∧ m_ = []) := by
  refine callOK_ofF good fn_spec_PathOf ?_
  conv => whnf
  all_goals (repeat' first
    | (refine br_true (b := decide (faultF (isPtF a b) (isFracF a b) = 0)) (by rw [hf, hg]; rfl) ?_; conv => whnf)
    | (refine br_false (b := decide (a < 1)) (decide_eq_false (by omega)) ?_; conv => whnf)
    | (refine br_false (b := decide (b < 1)) (decide_eq_false (by omega)) ?_; conv => whnf)
    | (refine enter_forget [0] (loop_rec (fun (s : Int × Int × ByteArray × (List UInt8)) => match s with | (p, q, s, l) => [wild, .pointer (some ⟨0, 0, none⟩), wild, wild, wild, .string s, ii p, ii q, wild, wild, wild, wild, wild, wild, wild, wild, wild, wild, wild, wild, wild, wild, wild, wild, wild, wild, wild, wild, wild, wild, wild, wild, wild, wild, wild, wild, wild, wild, wild, wild, wild, wild, wild, wild, wild, wild]) (fun (s : Int × Int × ByteArray × (List UInt8)) => match s with | (p, q, s, l) => [([ii a, ii b], some t_impl_Point)]) (fun (s : Int × Int × ByteArray × (List UInt8)) => match s with | (p, q, s, l) => 60 - l.length) (fun (s : Int × Int × ByteArray × (List UInt8)) => match s with | (p, q, s, l) => PthS a b p q s l) (a, b, ⟨#[]⟩, []) (PthS.start ha hb hf) ?_) (tmR_rfl rfl rfl) ⟨⟨⟨_, rfl, .plain rfl rfl (by first | exact Plain.of rfl | exact Row.all (by assumption))⟩⟩, trivial⟩ rfl rfl; rintro fuel_ ⟨p, q, s, l⟩ hI IH; replace hI : PthS a b p q s l := hI; conv => whnf)
    | exact next_forget [0] (IH (p, w64 (q - p), _, _) (by exact hI.left (by assumption) (by assumption)) (by exact hI.mu (by assumption) _)) (tmR_rfl rfl rfl) ⟨⟨⟨_, rfl, .plain rfl rfl (by first | exact Plain.of rfl | exact Row.all (by assumption))⟩⟩, trivial⟩ rfl rfl
    | exact next_forget [0] (IH (w64 (p - q), q, _, _) (by exact hI.right (by assumption) (by assumption) (by assumption)) (by exact hI.mu (by assumption) _)) (tmR_rfl rfl rfl) ⟨⟨⟨_, rfl, .plain rfl rfl (by first | exact Plain.of rfl | exact Row.all (by assumption))⟩⟩, trivial⟩ rfl rfl
    | (refine AddS.mk (by show _ + 1 ≤ _; have := hI.size; have := hI.inv.len; omega) ?_; conv => whnf)
    | (exfalso; exact hI.nfin (by assumption) hp)
    | exact out_forget [] ⟨rfl, rfl⟩ rfl (okB2_spec rfl) trivial rfl rfl
    | (refine StoreK.mk rfl ?_; conv => whnf)
    | exact join_same
    | exact (by assumption : (_ : Bool) = (_ : Bool))
    | (refine br_true (by assumption) ?_; conv => whnf)
    | (refine br_false (by assumption) ?_; conv => whnf)
    | (refine br_not ?_; conv => whnf)
    | (refine br_code ?_; conv => whnf)
    | (with_reducible refine br_and ?_; conv => whnf)
    | (with_reducible refine br_or ?_; conv => whnf)
    | (refine br_eq2 ?_; conv => whnf)
    | (refine c_l05Code_1.call1 rfl rfl ⟨_, rfl⟩ ?_; conv => whnf)
    | (refine c_l05Code_1.quiet1 rfl rfl ⟨_, rfl⟩ ?_; conv => whnf)
    | (refine c_l05Code_2.call1 rfl rfl ⟨_, rfl⟩ ?_; conv => whnf)
    | (refine c_l05Code_2.quiet1 rfl rfl ⟨_, rfl⟩ ?_; conv => whnf)
    | (refine c_l05Code_3.call1 rfl rfl ⟨_, rfl⟩ ?_; conv => whnf)
    | (refine c_l05Code_3.quiet1 rfl rfl ⟨_, rfl⟩ ?_; conv => whnf)
    | (refine draw_auto (by decide +kernel) ?_; conv => whnf)
    | (refine draw_asg (by decide +kernel) ?_; conv => whnf)
    | (refine draw_st (by decide +kernel) ?_; conv => whnf)
    | (refine draw_call (by decide +kernel) ?_; conv => whnf)
    | (refine enter_same (loop_n 12 ?_); conv => whnf)
    | (refine next_same ?_; conv => whnf)
    | (refine mapK_row (by assumption) ?_; conv => whnf)
    | (refine mapK_plain (Plain.of rfl) ?_; conv => whnf)
    | (refine mapK_lit ?_; conv => whnf)
    | (refine br_split (fun _ => ?_) (fun _ => ?_) <;> conv => whnf)
    | exact (rfl : (_ : Value) = _)
    | (simp only [*]; exact (rfl : (_ : Value) = _))
    | (simp [*]; done))

set_option maxHeartbeats 1000000 in
theorem c_spec_PathOf_st {a b : Int} (hf : isPtF a b = true) (hg : isFracF a b = true) (hs : ¬ (1 ≤ a ∧ 1 ≤ b)) : CallOK Try.prog n_spec_PathOf [pt a b] [] (fun v m_ => v = t2 (.string ⟨#[]⟩) (ii (5)) ∧ m_ = []) := by
  refine callOK_ofF good fn_spec_PathOf ?_
  conv => whnf
  all_goals (repeat' first
    | (refine br_true (b := decide (faultF (isPtF a b) (isFracF a b) = 0)) (by rw [hf, hg]; rfl) ?_; conv => whnf)
    | (exfalso; exact hs ⟨by have := of_decide_eq_false (show decide (a < 1) = false by assumption); omega, by have := of_decide_eq_false (show decide (b < 1) = false by assumption); omega⟩)
    | exact out_forget [] ⟨rfl, rfl⟩ rfl (okB2_spec rfl) trivial rfl rfl
    | (refine StoreK.mk rfl ?_; conv => whnf)
    | exact join_same
    | exact (by assumption : (_ : Bool) = (_ : Bool))
    | (refine br_true (by assumption) ?_; conv => whnf)
    | (refine br_false (by assumption) ?_; conv => whnf)
    | (refine br_not ?_; conv => whnf)
    | (refine br_code ?_; conv => whnf)
    | (with_reducible refine br_and ?_; conv => whnf)
    | (with_reducible refine br_or ?_; conv => whnf)
    | (refine br_eq2 ?_; conv => whnf)
    | (refine c_l05Code_1.call1 rfl rfl ⟨_, rfl⟩ ?_; conv => whnf)
    | (refine c_l05Code_1.quiet1 rfl rfl ⟨_, rfl⟩ ?_; conv => whnf)
    | (refine c_l05Code_2.call1 rfl rfl ⟨_, rfl⟩ ?_; conv => whnf)
    | (refine c_l05Code_2.quiet1 rfl rfl ⟨_, rfl⟩ ?_; conv => whnf)
    | (refine c_l05Code_3.call1 rfl rfl ⟨_, rfl⟩ ?_; conv => whnf)
    | (refine c_l05Code_3.quiet1 rfl rfl ⟨_, rfl⟩ ?_; conv => whnf)
    | (refine draw_auto (by decide +kernel) ?_; conv => whnf)
    | (refine draw_asg (by decide +kernel) ?_; conv => whnf)
    | (refine draw_st (by decide +kernel) ?_; conv => whnf)
    | (refine draw_call (by decide +kernel) ?_; conv => whnf)
    | (refine enter_same (loop_n 12 ?_); conv => whnf)
    | (refine next_same ?_; conv => whnf)
    | (refine mapK_row (by assumption) ?_; conv => whnf)
    | (refine mapK_plain (Plain.of rfl) ?_; conv => whnf)
    | (refine mapK_lit ?_; conv => whnf)
    | (refine br_split (fun _ => ?_) (fun _ => ?_) <;> conv => whnf)
    | exact (rfl : (_ : Value) = _)
    | (simp only [*]; exact (rfl : (_ : Value) = _))
    | (simp [*]; done))

set_option maxHeartbeats 1000000 in
theorem c_spec_PathOf_bad {a b : Int} (h : (isPtF a b && isFracF a b) = false) : CallOK Try.prog n_spec_PathOf [pt a b] [] (fun v m_ => v = t2 (.string ⟨#[]⟩) (ii (faultF (isPtF a b) (isFracF a b))) ∧ m_ = []) := by
  refine callOK_ofF good fn_spec_PathOf ?_
  conv => whnf
  all_goals (repeat' first
    | (refine br_false (b := decide (faultF (isPtF a b) (isFracF a b) = 0)) (by revert h; cases isPtF a b <;> cases isFracF a b <;> decide) ?_; conv => whnf)
    | exact out_forget [] ⟨rfl, rfl⟩ rfl (okB2_spec rfl) trivial rfl rfl
    | (refine StoreK.mk rfl ?_; conv => whnf)
    | exact join_same
    | exact (by assumption : (_ : Bool) = (_ : Bool))
    | (refine br_true (by assumption) ?_; conv => whnf)
    | (refine br_false (by assumption) ?_; conv => whnf)
    | (refine br_not ?_; conv => whnf)
    | (refine br_code ?_; conv => whnf)
    | (with_reducible refine br_and ?_; conv => whnf)
    | (with_reducible refine br_or ?_; conv => whnf)
    | (refine br_eq2 ?_; conv => whnf)
    | (refine c_l05Code_1.call1 rfl rfl ⟨_, rfl⟩ ?_; conv => whnf)
    | (refine c_l05Code_1.quiet1 rfl rfl ⟨_, rfl⟩ ?_; conv => whnf)
    | (refine c_l05Code_2.call1 rfl rfl ⟨_, rfl⟩ ?_; conv => whnf)
    | (refine c_l05Code_2.quiet1 rfl rfl ⟨_, rfl⟩ ?_; conv => whnf)
    | (refine c_l05Code_3.call1 rfl rfl ⟨_, rfl⟩ ?_; conv => whnf)
    | (refine c_l05Code_3.quiet1 rfl rfl ⟨_, rfl⟩ ?_; conv => whnf)
    | (refine draw_auto (by decide +kernel) ?_; conv => whnf)
    | (refine draw_asg (by decide +kernel) ?_; conv => whnf)
    | (refine draw_st (by decide +kernel) ?_; conv => whnf)
    | (refine draw_call (by decide +kernel) ?_; conv => whnf)
    | (refine enter_same (loop_n 12 ?_); conv => whnf)
    | (refine next_same ?_; conv => whnf)
    | (refine mapK_row (by assumption) ?_; conv => whnf)
    | (refine mapK_plain (Plain.of rfl) ?_; conv => whnf)
    | (refine mapK_lit ?_; conv => whnf)
    | (refine br_split (fun _ => ?_) (fun _ => ?_) <;> conv => whnf)
    | exact (rfl : (_ : Value) = _)
    | (simp only [*]; exact (rfl : (_ : Value) = _))
    | (simp [*]; done))

set_option maxHeartbeats 1000000 in
theorem c_impl_PathOf_ok {a b : Int} {m : List UInt8} (hf : isPtF a b = true) (hg : isFracF a b = true) (ha : 1 ≤ a) (hb : 1 ≤ b) (hp : pathL 60 a b = some m) : CallOK Try.prog n_impl_PathOf [pt a b] [] (fun v m_ => v = t2 (.string ⟨m.toArray⟩) (ii (0)) ∧ m_ = []) := by
  refine callOK_ofF good fn_impl_PathOf ?_
  conv => whnf
  all_goals (repeat' first
    | (refine br_true (b := decide (faultF (isPtF a b) (isFracF a b) = 0)) (by rw [hf, hg]; rfl) ?_; conv => whnf)
    | (refine br_false (b := decide (a < 1)) (decide_eq_false (by omega)) ?_; conv => whnf)
    | (refine br_false (b := decide (b < 1)) (decide_eq_false (by omega)) ?_; conv => whnf)
    | (refine enter_forget [0, 2] (loop_rec (fun (s : (Int × Int) ⊕ (Int × Int × List Value × List Value × Nat × Nat × List UInt8)) => match s with | .inl (p, q) => [wild, .pointer (some ⟨0, 0, none⟩), wild, wild, wild, .pointer (some ⟨1, 0, none⟩), ii p, ii q, wild, wild, wild, wild, wild, wild, wild, wild, wild, wild, wild, wild, wild, wild, wild, wild, wild, wild, wild, wild, wild, wild, wild, wild, wild, wild, wild, wild, wild, wild, wild, wild, wild, wild, wild, wild] | .inr (p, q, L, sp, n, c, l) => [wild, .pointer (some ⟨0, 0, none⟩), wild, wild, wild, .pointer (some ⟨1, 0, none⟩), ii p, ii q, wild, wild, wild, wild, wild, wild, wild, wild, wild, wild, wild, wild, wild, wild, wild, wild, wild, wild, wild, wild, wild, wild, wild, wild, wild, wild, wild, wild, wild, wild, wild, wild, wild, wild, wild, wild]) (fun (s : (Int × Int) ⊕ (Int × Int × List Value × List Value × Nat × Nat × List UInt8)) => match s with | .inl (p, q) => [([ii a, ii b], some t_impl_Point), ([.pointer none, .slice none 0 0], some 67)] | .inr (p, q, L, sp, n, c, l) => [([ii a, ii b], some t_impl_Point), ([.pointer (some ⟨1, 0, none⟩), .slice (some ⟨2, 0, none⟩) n c], some 67), (L ++ sp, some 5)]) (fun (s : (Int × Int) ⊕ (Int × Int × List Value × List Value × Nat × Nat × List UInt8)) => match s with | .inl (p, q) => 61 | .inr (p, q, L, sp, n, c, l) => 60 - l.length) (fun (s : (Int × Int) ⊕ (Int × Int × List Value × List Value × Nat × Nat × List UInt8)) => match s with | .inl (p, q) => PthI a b p q [] | .inr (p, q, L, sp, n, c, l) => PthB a b p q L sp n c l) (.inl (a, b)) (PthI.start ha hb hf) ?_) (tmR_rfl rfl rfl) ⟨⟨⟨_, rfl, .plain rfl rfl (by first | exact Plain.of rfl | exact Row.all (by assumption))⟩⟩, ⟨⟨_, rfl, .lit rfl rfl (fun v hv => okB0_spec (allL_spec rfl v hv))⟩⟩, trivial⟩ rfl rfl; rintro fuel_ (⟨p, q⟩ | ⟨p, q, L, sp, n, c, l⟩) hI IH <;> first | (replace hI : PthI a b p q [] := hI; conv => whnf) | (replace hI : PthB a b p q L sp n c l := hI; conv => whnf))
    | (refine CallOK.useR c_Len_fresh [1] rfl rfl rfl ⟨⟨⟨_, rfl, .lit rfl (fun _ h_ => by first | exact h_ | cases h_) (fun v hv => okB0_spec (allL_spec rfl v hv))⟩⟩, trivial⟩ (fun v_ mem_ hR => ?_); obtain ⟨rfl, rfl⟩ := hR; refine ⟨rfl, ?_⟩; conv => whnf)
    | (have hrI_ := hI.row; refine CallOK.useR (c_Len_used hrI_) [1, 2] rfl rfl rfl ⟨⟨⟨_, rfl, .lit rfl (fun _ h_ => by first | exact h_ | cases h_) (fun v hv => okB0_spec (allL_spec rfl v hv))⟩⟩, ⟨⟨_, rfl, .plain rfl (fun _ h_ => by first | exact h_ | cases h_) (Row.all hI.row)⟩⟩, trivial⟩ (fun v_ mem_ hR => ?_); obtain ⟨rfl, rfl⟩ := hR; refine ⟨rfl, ?_⟩; conv => whnf)
    | (refine CallOK.useR (c_Write_fresh (s := ⟨#[76]⟩) (by decide) (by decide)) [1] rfl rfl rfl ⟨⟨⟨_, rfl, .lit rfl (fun _ h_ => by first | exact h_ | cases h_) (fun v hv => okB0_spec (allL_spec rfl v hv))⟩⟩, trivial⟩ (fun v_ mem_ hR => ?_); obtain ⟨c_, sp_, hrow_, rfl, rfl⟩ := hR; refine ⟨rfl, ?_⟩; conv => whnf)
    | (have hrI_ := hI.row; refine CallOK.useR (c_Write_used (s := ⟨#[76]⟩) hrI_ (by have := hI.num; have := hI.inv.len; omega) (by decide)) [1, 2] rfl rfl rfl ⟨⟨⟨_, rfl, .lit rfl (fun _ h_ => by first | exact h_ | cases h_) (fun v hv => okB0_spec (allL_spec rfl v hv))⟩⟩, ⟨⟨_, rfl, .plain rfl (fun _ h_ => by first | exact h_ | cases h_) (Row.all hI.row)⟩⟩, trivial⟩ (fun v_ mem_ hR => ?_); rcases hR with ⟨rfl, ⟨sp_, hrow_, rfl⟩ | ⟨c_, sp_, hrow_, rfl⟩⟩ <;> (refine ⟨rfl, ?_⟩; conv => whnf))
    | (refine CallOK.useR (c_Write_fresh (s := ⟨#[82]⟩) (by decide) (by decide)) [1] rfl rfl rfl ⟨⟨⟨_, rfl, .lit rfl (fun _ h_ => by first | exact h_ | cases h_) (fun v hv => okB0_spec (allL_spec rfl v hv))⟩⟩, trivial⟩ (fun v_ mem_ hR => ?_); obtain ⟨c_, sp_, hrow_, rfl, rfl⟩ := hR; refine ⟨rfl, ?_⟩; conv => whnf)
    | (have hrI_ := hI.row; refine CallOK.useR (c_Write_used (s := ⟨#[82]⟩) hrI_ (by have := hI.num; have := hI.inv.len; omega) (by decide)) [1, 2] rfl rfl rfl ⟨⟨⟨_, rfl, .lit rfl (fun _ h_ => by first | exact h_ | cases h_) (fun v hv => okB0_spec (allL_spec rfl v hv))⟩⟩, ⟨⟨_, rfl, .plain rfl (fun _ h_ => by first | exact h_ | cases h_) (Row.all hI.row)⟩⟩, trivial⟩ (fun v_ mem_ hR => ?_); rcases hR with ⟨rfl, ⟨sp_, hrow_, rfl⟩ | ⟨c_, sp_, hrow_, rfl⟩⟩ <;> (refine ⟨rfl, ?_⟩; conv => whnf))
    | exact next_forget [0, 1, 2] (IH (.inr (p, w64 (q - p), _, _, _, _, _)) (by exact PthB.left0 hI (by assumption) hrow_) (by show _ < (_ : Nat); show 60 - List.length _ < 61; omega)) (tmR_rfl rfl rfl) ⟨⟨⟨_, rfl, .plain rfl rfl (by first | exact Plain.of rfl | exact Row.all (by assumption))⟩⟩, ⟨⟨_, rfl, .lit rfl rfl (fun v hv => okB0_spec (allL_spec rfl v hv))⟩⟩, ⟨⟨_, rfl, .plain rfl rfl (Row.all hrow_)⟩⟩, trivial⟩ rfl rfl
    | exact next_forget [0, 1, 2] (IH (.inr (p, w64 (q - p), _, _, _, _, _)) (by exact PthB.left hI (by assumption) (by assumption) hrow_) (by show _ < (_ : Nat); exact PthB.mu hI (by assumption) _)) (tmR_rfl rfl rfl) ⟨⟨⟨_, rfl, .plain rfl rfl (by first | exact Plain.of rfl | exact Row.all (by assumption))⟩⟩, ⟨⟨_, rfl, .lit rfl rfl (fun v hv => okB0_spec (allL_spec rfl v hv))⟩⟩, ⟨⟨_, rfl, .plain rfl rfl (Row.all hrow_)⟩⟩, trivial⟩ rfl rfl
    | exact next_forget [0, 1, 3] (IH (.inr (p, w64 (q - p), _, _, _, _, _)) (by exact PthB.left hI (by assumption) (by assumption) hrow_) (by show _ < (_ : Nat); exact PthB.mu hI (by assumption) _)) (tmR_rfl rfl rfl) ⟨⟨⟨_, rfl, .plain rfl rfl (by first | exact Plain.of rfl | exact Row.all (by assumption))⟩⟩, ⟨⟨_, rfl, .lit rfl rfl (fun v hv => okB0_spec (allL_spec rfl v hv))⟩⟩, ⟨⟨_, rfl, .plain rfl rfl (Row.all hrow_)⟩⟩, trivial⟩ rfl rfl
    | exact next_forget [0, 1, 2] (IH (.inr (w64 (p - q), q, _, _, _, _, _)) (by exact PthB.right0 hI (by assumption) (by assumption) hrow_) (by show _ < (_ : Nat); show 60 - List.length _ < 61; omega)) (tmR_rfl rfl rfl) ⟨⟨⟨_, rfl, .plain rfl rfl (by first | exact Plain.of rfl | exact Row.all (by assumption))⟩⟩, ⟨⟨_, rfl, .lit rfl rfl (fun v hv => okB0_spec (allL_spec rfl v hv))⟩⟩, ⟨⟨_, rfl, .plain rfl rfl (Row.all hrow_)⟩⟩, trivial⟩ rfl rfl
    | exact next_forget [0, 1, 2] (IH (.inr (w64 (p - q), q, _, _, _, _, _)) (by exact PthB.right hI (by assumption) (by assumption) (by assumption) hrow_) (by show _ < (_ : Nat); exact PthB.mu hI (by assumption) _)) (tmR_rfl rfl rfl) ⟨⟨⟨_, rfl, .plain rfl rfl (by first | exact Plain.of rfl | exact Row.all (by assumption))⟩⟩, ⟨⟨_, rfl, .lit rfl rfl (fun v hv => okB0_spec (allL_spec rfl v hv))⟩⟩, ⟨⟨_, rfl, .plain rfl rfl (Row.all hrow_)⟩⟩, trivial⟩ rfl rfl
    | exact next_forget [0, 1, 3] (IH (.inr (w64 (p - q), q, _, _, _, _, _)) (by exact PthB.right hI (by assumption) (by assumption) (by assumption) hrow_) (by show _ < (_ : Nat); exact PthB.mu hI (by assumption) _)) (tmR_rfl rfl rfl) ⟨⟨⟨_, rfl, .plain rfl rfl (by first | exact Plain.of rfl | exact Row.all (by assumption))⟩⟩, ⟨⟨_, rfl, .lit rfl rfl (fun v hv => okB0_spec (allL_spec rfl v hv))⟩⟩, ⟨⟨_, rfl, .plain rfl rfl (Row.all hrow_)⟩⟩, trivial⟩ rfl rfl
    | (exfalso; exact hI.nlim (by assumption) (by assumption) hp)
    | (obtain rfl := PthI.fin0 hI (by assumption) hp; refine CallQ.call (string_nil_q (b := 1) rfl) ?_; conv => whnf)
    | (obtain rfl := PthB.fin hI (by assumption) hp; have hnum_ := hI.num; obtain ⟨hi1_, hi2_, rfl, hi4_⟩ := hI; refine string_c (b := 1) (r := 2) (l := l) (sp := sp) fn_strings_Builder_String.enters string_row rfl rfl hnum_ (by have := hi2_.cap; rw [Lib.byteCells_length] at this; omega) hi4_ (by have := hi1_.len; omega) ?_; conv => whnf)
    | exact out_forget [] ⟨rfl, rfl⟩ rfl (okB2_spec rfl) trivial rfl rfl
    | (refine StoreK.mk rfl ?_; conv => whnf)
    | exact join_same
    | exact (by assumption : (_ : Bool) = (_ : Bool))
    | (refine br_true (by assumption) ?_; conv => whnf)
    | (refine br_false (by assumption) ?_; conv => whnf)
    | (refine br_not ?_; conv => whnf)
    | (refine br_code ?_; conv => whnf)
    | (with_reducible refine br_and ?_; conv => whnf)
    | (with_reducible refine br_or ?_; conv => whnf)
    | (refine br_eq2 ?_; conv => whnf)
    | (refine c_fault_1.call1 rfl rfl ⟨_, rfl⟩ ?_; conv => whnf)
    | (refine c_fault_1.quiet1 rfl rfl ⟨_, rfl⟩ ?_; conv => whnf)
    | (refine c_fault_2.call1 rfl rfl ⟨_, rfl⟩ ?_; conv => whnf)
    | (refine c_fault_2.quiet1 rfl rfl ⟨_, rfl⟩ ?_; conv => whnf)
    | (refine c_fault_3.call1 rfl rfl ⟨_, rfl⟩ ?_; conv => whnf)
    | (refine c_fault_3.quiet1 rfl rfl ⟨_, rfl⟩ ?_; conv => whnf)
    | (refine draw_auto (by decide +kernel) ?_; conv => whnf)
    | (refine draw_asg (by decide +kernel) ?_; conv => whnf)
    | (refine draw_st (by decide +kernel) ?_; conv => whnf)
    | (refine draw_call (by decide +kernel) ?_; conv => whnf)
    | (refine enter_same (loop_n 12 ?_); conv => whnf)
    | (refine next_same ?_; conv => whnf)
    | (refine mapK_row (by assumption) ?_; conv => whnf)
    | (refine mapK_plain (Plain.of rfl) ?_; conv => whnf)
    | (refine mapK_lit ?_; conv => whnf)
    | (refine br_split (fun _ => ?_) (fun _ => ?_) <;> conv => whnf)
    | exact (rfl : (_ : Value) = _)
    | (simp only [*]; exact (rfl : (_ : Value) = _))
    | (simp [*]; done))

set_option maxHeartbeats 1000000 in
theorem c_impl_PathOf_lim {a b : Int} (hf : isPtF a b = true) (hg : isFracF a b = true) (ha : 1 ≤ a) (hb : 1 ≤ b) (hp : pathL 60 a b = none) : CallOK Try.prog n_impl_PathOf [pt a b] [] (fun v m_ => v = t2 (.string ⟨#[]⟩) (ii (3)) ∧ m_ = []) := by
  refine callOK_ofF good fn_impl_PathOf ?_
  conv => whnf
  all_goals (repeat' first
    | (refine br_true (b := decide (faultF (isPtF a b) (isFracF a b) = 0)) (by rw [hf, hg]; rfl) ?_; conv => whnf)
    | (refine br_false (b := decide (a < 1)) (decide_eq_false (by omega)) ?_; conv => whnf)
    | (refine br_false (b := decide (b < 1)) (decide_eq_false (by omega)) ?_; conv => whnf)
    | (refine enter_forget [0, 2] (loop_rec (fun (s : (Int × Int) ⊕ (Int × Int × List Value × List Value × Nat × Nat × List UInt8)) => match s with | .inl (p, q) => [wild, .pointer (some ⟨0, 0, none⟩), wild, wild, wild, .pointer (some ⟨1, 0, none⟩), ii p, ii q, wild, wild, wild, wild, wild, wild, wild, wild, wild, wild, wild, wild, wild, wild, wild, wild, wild, wild, wild, wild, wild, wild, wild, wild, wild, wild, wild, wild, wild, wild, wild, wild, wild, wild, wild, wild] | .inr (p, q, L, sp, n, c, l) => [wild, .pointer (some ⟨0, 0, none⟩), wild, wild, wild, .pointer (some ⟨1, 0, none⟩), ii p, ii q, wild, wild, wild, wild, wild, wild, wild, wild, wild, wild, wild, wild, wild, wild, wild, wild, wild, wild, wild, wild, wild, wild, wild, wild, wild, wild, wild, wild, wild, wild, wild, wild, wild, wild, wild, wild]) (fun (s : (Int × Int) ⊕ (Int × Int × List Value × List Value × Nat × Nat × List UInt8)) => match s with | .inl (p, q) => [([ii a, ii b], some t_impl_Point), ([.pointer none, .slice none 0 0], some 67)] | .inr (p, q, L, sp, n, c, l) => [([ii a, ii b], some t_impl_Point), ([.pointer (some ⟨1, 0, none⟩), .slice (some ⟨2, 0, none⟩) n c], some 67), (L ++ sp, some 5)]) (fun (s : (Int × Int) ⊕ (Int × Int × List Value × List Value × Nat × Nat × List UInt8)) => match s with | .inl (p, q) => 61 | .inr (p, q, L, sp, n, c, l) => 60 - l.length) (fun (s : (Int × Int) ⊕ (Int × Int × List Value × List Value × Nat × Nat × List UInt8)) => match s with | .inl (p, q) => PthI a b p q [] | .inr (p, q, L, sp, n, c, l) => PthB a b p q L sp n c l) (.inl (a, b)) (PthI.start ha hb hf) ?_) (tmR_rfl rfl rfl) ⟨⟨⟨_, rfl, .plain rfl rfl (by first | exact Plain.of rfl | exact Row.all (by assumption))⟩⟩, ⟨⟨_, rfl, .lit rfl rfl (fun v hv => okB0_spec (allL_spec rfl v hv))⟩⟩, trivial⟩ rfl rfl; rintro fuel_ (⟨p, q⟩ | ⟨p, q, L, sp, n, c, l⟩) hI IH <;> first | (replace hI : PthI a b p q [] := hI; conv => whnf) | (replace hI : PthB a b p q L sp n c l := hI; conv => whnf))
    | (refine CallOK.useR c_Len_fresh [1] rfl rfl rfl ⟨⟨⟨_, rfl, .lit rfl (fun _ h_ => by first | exact h_ | cases h_) (fun v hv => okB0_spec (allL_spec rfl v hv))⟩⟩, trivial⟩ (fun v_ mem_ hR => ?_); obtain ⟨rfl, rfl⟩ := hR; refine ⟨rfl, ?_⟩; conv => whnf)
    | (have hrI_ := hI.row; refine CallOK.useR (c_Len_used hrI_) [1, 2] rfl rfl rfl ⟨⟨⟨_, rfl, .lit rfl (fun _ h_ => by first | exact h_ | cases h_) (fun v hv => okB0_spec (allL_spec rfl v hv))⟩⟩, ⟨⟨_, rfl, .plain rfl (fun _ h_ => by first | exact h_ | cases h_) (Row.all hI.row)⟩⟩, trivial⟩ (fun v_ mem_ hR => ?_); obtain ⟨rfl, rfl⟩ := hR; refine ⟨rfl, ?_⟩; conv => whnf)
    | (refine CallOK.useR (c_Write_fresh (s := ⟨#[76]⟩) (by decide) (by decide)) [1] rfl rfl rfl ⟨⟨⟨_, rfl, .lit rfl (fun _ h_ => by first | exact h_ | cases h_) (fun v hv => okB0_spec (allL_spec rfl v hv))⟩⟩, trivial⟩ (fun v_ mem_ hR => ?_); obtain ⟨c_, sp_, hrow_, rfl, rfl⟩ := hR; refine ⟨rfl, ?_⟩; conv => whnf)
    | (have hrI_ := hI.row; refine CallOK.useR (c_Write_used (s := ⟨#[76]⟩) hrI_ (by have := hI.num; have := hI.inv.len; omega) (by decide)) [1, 2] rfl rfl rfl ⟨⟨⟨_, rfl, .lit rfl (fun _ h_ => by first | exact h_ | cases h_) (fun v hv => okB0_spec (allL_spec rfl v hv))⟩⟩, ⟨⟨_, rfl, .plain rfl (fun _ h_ => by first | exact h_ | cases h_) (Row.all hI.row)⟩⟩, trivial⟩ (fun v_ mem_ hR => ?_); rcases hR with ⟨rfl, ⟨sp_, hrow_, rfl⟩ | ⟨c_, sp_, hrow_, rfl⟩⟩ <;> (refine ⟨rfl, ?_⟩; conv => whnf))
    | (refine CallOK.useR (c_Write_fresh (s := ⟨#[82]⟩) (by decide) (by decide)) [1] rfl rfl rfl ⟨⟨⟨_, rfl, .lit rfl (fun _ h_ => by first | exact h_ | cases h_) (fun v hv => okB0_spec (allL_spec rfl v hv))⟩⟩, trivial⟩ (fun v_ mem_ hR => ?_); obtain ⟨c_, sp_, hrow_, rfl, rfl⟩ := hR; refine ⟨rfl, ?_⟩; conv => whnf)
    | (have hrI_ := hI.row; refine CallOK.useR (c_Write_used (s := ⟨#[82]⟩) hrI_ (by have := hI.num; have := hI.inv.len; omega) (by decide)) [1, 2] rfl rfl rfl ⟨⟨⟨_, rfl, .lit rfl (fun _ h_ => by first | exact h_ | cases h_) (fun v hv => okB0_spec (allL_spec rfl v hv))⟩⟩, ⟨⟨_, rfl, .plain rfl (fun _ h_ => by first | exact h_ | cases h_) (Row.all hI.row)⟩⟩, trivial⟩ (fun v_ mem_ hR => ?_); rcases hR with ⟨rfl, ⟨sp_, hrow_, rfl⟩ | ⟨c_, sp_, hrow_, rfl⟩⟩ <;> (refine ⟨rfl, ?_⟩; conv => whnf))
    | exact next_forget [0, 1, 2] (IH (.inr (p, w64 (q - p), _, _, _, _, _)) (by exact PthB.left0 hI (by assumption) hrow_) (by show _ < (_ : Nat); show 60 - List.length _ < 61; omega)) (tmR_rfl rfl rfl) ⟨⟨⟨_, rfl, .plain rfl rfl (by first | exact Plain.of rfl | exact Row.all (by assumption))⟩⟩, ⟨⟨_, rfl, .lit rfl rfl (fun v hv => okB0_spec (allL_spec rfl v hv))⟩⟩, ⟨⟨_, rfl, .plain rfl rfl (Row.all hrow_)⟩⟩, trivial⟩ rfl rfl
    | exact next_forget [0, 1, 2] (IH (.inr (p, w64 (q - p), _, _, _, _, _)) (by exact PthB.left hI (by assumption) (by assumption) hrow_) (by show _ < (_ : Nat); exact PthB.mu hI (by assumption) _)) (tmR_rfl rfl rfl) ⟨⟨⟨_, rfl, .plain rfl rfl (by first | exact Plain.of rfl | exact Row.all (by assumption))⟩⟩, ⟨⟨_, rfl, .lit rfl rfl (fun v hv => okB0_spec (allL_spec rfl v hv))⟩⟩, ⟨⟨_, rfl, .plain rfl rfl (Row.all hrow_)⟩⟩, trivial⟩ rfl rfl
    | exact next_forget [0, 1, 3] (IH (.inr (p, w64 (q - p), _, _, _, _, _)) (by exact PthB.left hI (by assumption) (by assumption) hrow_) (by show _ < (_ : Nat); exact PthB.mu hI (by assumption) _)) (tmR_rfl rfl rfl) ⟨⟨⟨_, rfl, .plain rfl rfl (by first | exact Plain.of rfl | exact Row.all (by assumption))⟩⟩, ⟨⟨_, rfl, .lit rfl rfl (fun v hv => okB0_spec (allL_spec rfl v hv))⟩⟩, ⟨⟨_, rfl, .plain rfl rfl (Row.all hrow_)⟩⟩, trivial⟩ rfl rfl
    | exact next_forget [0, 1, 2] (IH (.inr (w64 (p - q), q, _, _, _, _, _)) (by exact PthB.right0 hI (by assumption) (by assumption) hrow_) (by show _ < (_ : Nat); show 60 - List.length _ < 61; omega)) (tmR_rfl rfl rfl) ⟨⟨⟨_, rfl, .plain rfl rfl (by first | exact Plain.of rfl | exact Row.all (by assumption))⟩⟩, ⟨⟨_, rfl, .lit rfl rfl (fun v hv => okB0_spec (allL_spec rfl v hv))⟩⟩, ⟨⟨_, rfl, .plain rfl rfl (Row.all hrow_)⟩⟩, trivial⟩ rfl rfl
    | exact next_forget [0, 1, 2] (IH (.inr (w64 (p - q), q, _, _, _, _, _)) (by exact PthB.right hI (by assumption) (by assumption) (by assumption) hrow_) (by show _ < (_ : Nat); exact PthB.mu hI (by assumption) _)) (tmR_rfl rfl rfl) ⟨⟨⟨_, rfl, .plain rfl rfl (by first | exact Plain.of rfl | exact Row.all (by assumption))⟩⟩, ⟨⟨_, rfl, .lit rfl rfl (fun v hv => okB0_spec (allL_spec rfl v hv))⟩⟩, ⟨⟨_, rfl, .plain rfl rfl (Row.all hrow_)⟩⟩, trivial⟩ rfl rfl
    | exact next_forget [0, 1, 3] (IH (.inr (w64 (p - q), q, _, _, _, _, _)) (by exact PthB.right hI (by assumption) (by assumption) (by assumption) hrow_) (by show _ < (_ : Nat); exact PthB.mu hI (by assumption) _)) (tmR_rfl rfl rfl) ⟨⟨⟨_, rfl, .plain rfl rfl (by first | exact Plain.of rfl | exact Row.all (by assumption))⟩⟩, ⟨⟨_, rfl, .lit rfl rfl (fun v hv => okB0_spec (allL_spec rfl v hv))⟩⟩, ⟨⟨_, rfl, .plain rfl rfl (Row.all hrow_)⟩⟩, trivial⟩ rfl rfl
    | (exfalso; exact PthI.nfin hI (by assumption) hp)
    | (exfalso; exact PthI.nfin hI.inv (by assumption) hp)
    | exact out_forget [] ⟨rfl, rfl⟩ rfl (okB2_spec rfl) trivial rfl rfl
    | (refine StoreK.mk rfl ?_; conv => whnf)
    | exact join_same
    | exact (by assumption : (_ : Bool) = (_ : Bool))
    | (refine br_true (by assumption) ?_; conv => whnf)
    | (refine br_false (by assumption) ?_; conv => whnf)
    | (refine br_not ?_; conv => whnf)
    | (refine br_code ?_; conv => whnf)
    | (with_reducible refine br_and ?_; conv => whnf)
    | (with_reducible refine br_or ?_; conv => whnf)
    | (refine br_eq2 ?_; conv => whnf)
    | (refine c_fault_1.call1 rfl rfl ⟨_, rfl⟩ ?_; conv => whnf)
    | (refine c_fault_1.quiet1 rfl rfl ⟨_, rfl⟩ ?_; conv => whnf)
    | (refine c_fault_2.call1 rfl rfl ⟨_, rfl⟩ ?_; conv => whnf)
    | (refine c_fault_2.quiet1 rfl rfl ⟨_, rfl⟩ ?_; conv => whnf)
    | (refine c_fault_3.call1 rfl rfl ⟨_, rfl⟩ ?_; conv => whnf)
    | (refine c_fault_3.quiet1 rfl rfl ⟨_, rfl⟩ ?_; conv => whnf)
    | (refine draw_auto (by decide +kernel) ?_; conv => whnf)
    | (refine draw_asg (by decide +kernel) ?_; conv => whnf)
    | (refine draw_st (by decide +kernel) ?_; conv => whnf)
    | (refine draw_call (by decide +kernel) ?_; conv => whnf)
    | (refine enter_same (loop_n 12 ?_); conv => whnf)
    | (refine next_same ?_; conv => whnf)
    | (refine mapK_row (by assumption) ?_; conv => whnf)
    | (refine mapK_plain (Plain.of rfl) ?_; conv => whnf)
    | (refine mapK_lit ?_; conv => whnf)
    | (refine br_split (fun _ => ?_) (fun _ => ?_) <;> conv => whnf)
    | exact (rfl : (_ : Value) = _)
    | (simp only [*]; exact (rfl : (_ : Value) = _))
    | (simp [*]; done))

set_option maxHeartbeats 1000000 in
theorem c_impl_PathOf_st {a b : Int} (hf : isPtF a b = true) (hg : isFracF a b = true) (hs : ¬ (1 ≤ a ∧ 1 ≤ b)) : CallOK Try.prog n_impl_PathOf [pt a b] [] (fun v m_ => v = t2 (.string ⟨#[]⟩) (ii (5)) ∧ m_ = []) := by
  refine callOK_ofF good fn_impl_PathOf ?_
  conv => whnf
  all_goals (repeat' first
    | (refine br_true (b := decide (faultF (isPtF a b) (isFracF a b) = 0)) (by rw [hf, hg]; rfl) ?_; conv => whnf)
    | (exfalso; exact hs ⟨by have := of_decide_eq_false (show decide (a < 1) = false by assumption); omega, by have := of_decide_eq_false (show decide (b < 1) = false by assumption); omega⟩)
    | exact out_forget [] ⟨rfl, rfl⟩ rfl (okB2_spec rfl) trivial rfl rfl
    | (refine StoreK.mk rfl ?_; conv => whnf)
    | exact join_same
    | exact (by assumption : (_ : Bool) = (_ : Bool))
    | (refine br_true (by assumption) ?_; conv => whnf)
    | (refine br_false (by assumption) ?_; conv => whnf)
    | (refine br_not ?_; conv => whnf)
    | (refine br_code ?_; conv => whnf)
    | (with_reducible refine br_and ?_; conv => whnf)
    | (with_reducible refine br_or ?_; conv => whnf)
    | (refine br_eq2 ?_; conv => whnf)
    | (refine c_fault_1.call1 rfl rfl ⟨_, rfl⟩ ?_; conv => whnf)
    | (refine c_fault_1.quiet1 rfl rfl ⟨_, rfl⟩ ?_; conv => whnf)
    | (refine c_fault_2.call1 rfl rfl ⟨_, rfl⟩ ?_; conv => whnf)
    | (refine c_fault_2.quiet1 rfl rfl ⟨_, rfl⟩ ?_; conv => whnf)
    | (refine c_fault_3.call1 rfl rfl ⟨_, rfl⟩ ?_; conv => whnf)
    | (refine c_fault_3.quiet1 rfl rfl ⟨_, rfl⟩ ?_; conv => whnf)
    | (refine draw_auto (by decide +kernel) ?_; conv => whnf)
    | (refine draw_asg (by decide +kernel) ?_; conv => whnf)
    | (refine draw_st (by decide +kernel) ?_; conv => whnf)
    | (refine draw_call (by decide +kernel) ?_; conv => whnf)
    | (refine enter_same (loop_n 12 ?_); conv => whnf)
    | (refine next_same ?_; conv => whnf)
    | (refine mapK_row (by assumption) ?_; conv => whnf)
    | (refine mapK_plain (Plain.of rfl) ?_; conv => whnf)
    | (refine mapK_lit ?_; conv => whnf)
    | (refine br_split (fun _ => ?_) (fun _ => ?_) <;> conv => whnf)
    | exact (rfl : (_ : Value) = _)
    | (simp only [*]; exact (rfl : (_ : Value) = _))
    | (simp [*]; done))

set_option maxHeartbeats 1000000 in
theorem c_impl_PathOf_bad {a b : Int} (h : (isPtF a b && isFracF a b) = false) : CallOK Try.prog n_impl_PathOf [pt a b] [] (fun v m_ => v = t2 (.string ⟨#[]⟩) (ii (faultF (isPtF a b) (isFracF a b))) ∧ m_ = []) := by
  refine callOK_ofF good fn_impl_PathOf ?_
  conv => whnf
  all_goals (repeat' first
    | (refine br_false (b := decide (faultF (isPtF a b) (isFracF a b) = 0)) (by revert h; cases isPtF a b <;> cases isFracF a b <;> decide) ?_; conv => whnf)
    | exact out_forget [] ⟨rfl, rfl⟩ rfl (okB2_spec rfl) trivial rfl rfl
    | (refine StoreK.mk rfl ?_; conv => whnf)
    | exact join_same
    | exact (by assumption : (_ : Bool) = (_ : Bool))
    | (refine br_true (by assumption) ?_; conv => whnf)
    | (refine br_false (by assumption) ?_; conv => whnf)
    | (refine br_not ?_; conv => whnf)
    | (refine br_code ?_; conv => whnf)
    | (with_reducible refine br_and ?_; conv => whnf)
    | (with_reducible refine br_or ?_; conv => whnf)
    | (refine br_eq2 ?_; conv => whnf)
    | (refine c_fault_1.call1 rfl rfl ⟨_, rfl⟩ ?_; conv => whnf)
    | (refine c_fault_1.quiet1 rfl rfl ⟨_, rfl⟩ ?_; conv => whnf)
    | (refine c_fault_2.call1 rfl rfl ⟨_, rfl⟩ ?_; conv => whnf)
    | (refine c_fault_2.quiet1 rfl rfl ⟨_, rfl⟩ ?_; conv => whnf)
    | (refine c_fault_3.call1 rfl rfl ⟨_, rfl⟩ ?_; conv => whnf)
    | (refine c_fault_3.quiet1 rfl rfl ⟨_, rfl⟩ ?_; conv => whnf)
    | (refine draw_auto (by decide +kernel) ?_; conv => whnf)
    | (refine draw_asg (by decide +kernel) ?_; conv => whnf)
    | (refine draw_st (by decide +kernel) ?_; conv => whnf)
    | (refine draw_call (by decide +kernel) ?_; conv => whnf)
    | (refine enter_same (loop_n 12 ?_); conv => whnf)
    | (refine next_same ?_; conv => whnf)
    | (refine mapK_row (by assumption) ?_; conv => whnf)
    | (refine mapK_plain (Plain.of rfl) ?_; conv => whnf)
    | (refine mapK_lit ?_; conv => whnf)
    | (refine br_split (fun _ => ?_) (fun _ => ?_) <;> conv => whnf)
    | exact (rfl : (_ : Value) = _)
    | (simp only [*]; exact (rfl : (_ : Value) = _))
    | (simp [*]; done))

end Go.Proofs.Ytnjepaboecijcaa
