/-
  Contracts of functions of the program (printed by a program of this work; Lean checks each).
  Conditions: as each contract states.
-/
import Derived.Test.YtndmkibdcfpddaaK152
namespace Go.Proofs.Ytndmkibdcfpddaa
open Go.Ev Go.RowKit
set_option maxRecDepth 100000
set_option linter.unusedVariables false
set_option linter.unusedSimpArgs false

set_option maxHeartbeats 2000000 in
theorem c_delete {sp B : List Value} {n c q m d : Nat} {L LL : List S3} (h1 : Row (sl L) sp n c 3) (hn : n ≤ 100000000) (h2 : RowO B q (sl LL) m d 3) (hm : m ≤ 100000000) : CallOK Try.prog n_slices_DeleteFunc_Spot [.slice (some ⟨0, 0, none⟩) n c, .func (.func n_impl_HilbertBasis_1) #[] #[.pointer (some ⟨2, 0, none⟩)]] [(sl L ++ sp, some t_impl_Spot), (B, none), ([.slice (some ⟨1, q, none⟩) m d], none)] (fun v m_ => ∃ n2 s2, Row (sl (L.filter fun x => !(LL.any (hbF x)))) s2 n2 c 3 ∧ v = .slice (some ⟨0, 0, none⟩) n2 c ∧ m_ = [(sl (L.filter fun x => !(LL.any (hbF x))) ++ s2, some t_impl_Spot), (B, none), ([.slice (some ⟨1, q, none⟩) m d], none)]) := by
  obtain rfl : L.length = n := (by have h_ := h1.len; rw [sl_len] at h_; omega); refine callOK_ofF good fn_slices_DeleteFunc_Spot ?_
  conv => whnf
  all_goals (repeat' first
    | (refine enter_forget [] (loop_rec (fun (s : Int × Int × (List Value)) => match s with | (i, j, C) => [.slice (some ⟨0, 0, none⟩) L.length c, .func (.func n_impl_HilbertBasis_1) #[] #[.pointer (some ⟨2, 0, none⟩)], wild, wild, wild, ii i, ii j, wild, wild, wild, wild, wild, wild, wild, wild, wild, wild, wild, wild, wild, wild, wild, wild, wild, wild, wild, wild, wild, wild, wild, wild, wild, wild, wild, wild, wild, wild, wild, wild, wild, wild, wild]) (fun (s : Int × Int × (List Value)) => match s with | (i, j, C) => [(C, some t_impl_Spot), (B, none), ([.slice (some ⟨1, q, none⟩) m d], none)]) (fun (s : Int × Int × (List Value)) => match s with | (i, j, C) => ((L.length : Int) - j).toNat) (fun (s : Int × Int × (List Value)) => match s with | (i, j, C) => DelI (fun x => LL.any (hbF x)) L sp C i j) (r_, w64 (r_ + 1), sl L ++ sp) (DelI.start h1 hr_ (of_decide_eq_false (show decide (r_ = -1) = false by assumption)) hn) ?_) (tmR_rfl rfl rfl) ⟨⟨⟨_, rfl, .plain rfl rfl (Row.all h1)⟩⟩, ⟨⟨_, rfl, .plain rfl rfl (RowO.all h2)⟩⟩, ⟨⟨_, rfl, .lit rfl rfl (fun v hv => okB0_spec (allL_spec rfl v hv))⟩⟩, trivial⟩ rfl rfl; rintro fuel_ ⟨i, j, C⟩ hI IH; replace hI : DelI (fun x => LL.any (hbF x)) L sp C i j := hI; conv => whnf)
    | exact next_forget [] (IH (i, w64 (j + 1), C) (by exact hI.skip (p := (fun x => LL.any (hbF x))) (of_decide_eq_true (show decide (j < (L.length : Int)) = true by assumption)) hn (by assumption)) (by exact hI.mu (of_decide_eq_true (show decide (j < (L.length : Int)) = true by assumption)) hn)) (tmR_rfl rfl rfl) ⟨⟨⟨_, rfl, .plain rfl rfl hI.pl⟩⟩, ⟨⟨_, rfl, .plain rfl rfl (RowO.all h2)⟩⟩, ⟨⟨_, rfl, .lit rfl rfl (fun v hv => okB0_spec (allL_spec rfl v hv))⟩⟩, trivial⟩ rfl rfl
    | exact next_forget [] (IH (w64 (i + 1), w64 (j + 1), _) (hI.keep (p := (fun x => LL.any (hbF x))) h1 (of_decide_eq_true (show decide (j < (L.length : Int)) = true by assumption)) hn (by assumption) (off := 0 + i.toNat * 3) (Nat.zero_add _) rfl) (by exact hI.mu (of_decide_eq_true (show decide (j < (L.length : Int)) = true by assumption)) hn)) (tmR_rfl rfl rfl) ⟨⟨⟨_, rfl, .plain rfl rfl (DelI.pl (hI.keep (p := (fun x => LL.any (hbF x))) h1 (of_decide_eq_true (show decide (j < (L.length : Int)) = true by assumption)) hn (by assumption) (off := 0 + i.toNat * 3) (Nat.zero_add _) rfl))⟩⟩, ⟨⟨_, rfl, .plain rfl rfl (RowO.all h2)⟩⟩, ⟨⟨_, rfl, .lit rfl rfl (fun v hv => okB0_spec (allL_spec rfl v hv))⟩⟩, trivial⟩ rfl rfl
    | (refine CallOK.useR (c_index_hb1 (RowO.of h1) hn h2 hm) [_, _, _] rfl rfl rfl ⟨⟨⟨_, rfl, .plain rfl (fun _ h_ => by first | exact h_ | cases h_) (Row.all h1)⟩⟩, ⟨⟨_, rfl, .plain rfl (fun _ h_ => by first | exact h_ | cases h_) (RowO.all h2)⟩⟩, ⟨⟨_, rfl, .lit rfl (fun _ h_ => by first | exact h_ | cases h_) (fun v hv => okB0_spec (allL_spec rfl v hv))⟩⟩, trivial⟩ (fun v_ mem_ hR => ?_); obtain ⟨r_, hr_, rfl, rfl⟩ := hR; refine ⟨rfl, ?_⟩; conv => whnf)
    | (have e_ : (L.filter fun x => !(LL.any (hbF x))) = L := hr_.all (of_decide_eq_true (show decide (r_ = -1) = true by assumption)); rw [e_]; exact out_forget [] ⟨_, _, h1, rfl, rfl⟩ rfl (okB2_spec rfl) ⟨⟨⟨_, rfl, .plain rfl rfl (Row.all h1)⟩⟩, ⟨⟨_, rfl, .plain rfl rfl (RowO.all h2)⟩⟩, ⟨⟨_, rfl, .lit rfl rfl (fun v hv => okB0_spec (allL_spec rfl v hv))⟩⟩, trivial⟩ rfl rfl)
    | (refine br_true (b := decide (0 ≤ i ∧ i ≤ (L.length : Int))) (decide_eq_true ⟨hI.lo, by have := hI.lt; have := hI.hi; omega⟩) ?_; conv => whnf)
    | (refine br_true (b := decide (0 ≤ i ∧ i ≤ (c : Int))) (decide_eq_true ⟨hI.lo, by have h6_ := h1.le (by decide); have := hI.lt; have := hI.hi; omega⟩) ?_; conv => whnf)
    | (refine StoreK.mk ?_ ?_; (focus (exact Nat.ble_eq_true_of_le (hI.room (of_decide_eq_true (show decide (j < (L.length : Int)) = true by assumption))))); refine forceL_mk ?_; conv => whnf)
    | (show ClrK _ _ _ _ _ _ _ _; refine clr_row rfl hI.pl (hI.fit h1) rfl rfl (by decide) (fun Z_ hZ_ hl_ => ?_); conv => whnf)
    | (obtain ⟨s2_, hd_, hr2_⟩ := hI.fin2 h1 (of_decide_eq_false (show decide (j < (L.length : Int)) = false by assumption)) hZ_ hl_; exact out_forget [] ⟨_, _, hr2_, rfl, rfl⟩ rfl (okB2_spec rfl) ⟨⟨⟨_, rfl, .plain hd_ rfl (Row.all hr2_)⟩⟩, ⟨⟨_, rfl, .plain rfl rfl (RowO.all h2)⟩⟩, ⟨⟨_, rfl, .lit rfl rfl (fun v hv => okB0_spec (allL_spec rfl v hv))⟩⟩, trivial⟩ rfl rfl)
    | (refine br_in (by have := hI.lo; have := hI.lt; omega) (of_decide_eq_true (show decide (j < (L.length : Int)) = true by assumption)) ?_; conv => whnf)
    | (refine force_eq (hI.at_ (of_decide_eq_true (show decide (j < (L.length : Int)) = true by assumption)) (by (try clear IH); simp only [Nat.zero_add]; done)) ?_; conv => whnf)
    | (refine CallOK.useR (c_hb1 (x := (L.getD j.toNat (0, 0, 0))) h2 hm) [1, 2] rfl rfl rfl ⟨⟨⟨_, rfl, .plain rfl (fun _ h_ => by first | exact h_ | cases h_) (RowO.all h2)⟩⟩, ⟨⟨_, rfl, .lit rfl (fun _ h_ => by first | exact h_ | cases h_) (fun v hv => okB0_spec (allL_spec rfl v hv))⟩⟩, trivial⟩ (fun v_ mem_ hR => ?_); obtain ⟨rfl, rfl⟩ := hR; refine ⟨rfl, ?_⟩; conv => whnf)
    | (refine br_in hI.lo (by have := hI.lt; have := (of_decide_eq_true (show decide (j < (L.length : Int)) = true by assumption)); omega) ?_; conv => whnf)
    | (refine StoreK.mk rfl ?_; conv => whnf)
    | exact join_same
    | exact (by assumption : (_ : Bool) = (_ : Bool))
    | (refine br_true (by assumption) ?_; conv => whnf)
    | (refine br_false (by assumption) ?_; conv => whnf)
    | (refine br_not ?_; conv => whnf)
    | (refine br_code ?_; conv => whnf)
    | (with_reducible refine br_and ?_; conv => whnf)
    | (with_reducible refine br_or ?_; conv => whnf)
    | (refine br_eq2 ?_; conv => whnf)
    | (refine draw_auto (by decide +kernel) ?_; conv => whnf)
    | (refine draw_asg (by decide +kernel) ?_; conv => whnf)
    | (refine draw_st (by decide +kernel) ?_; conv => whnf)
    | (refine draw_call (by decide +kernel) ?_; conv => whnf)
    | (refine enter_same (loop_n 12 ?_); conv => whnf)
    | (refine next_same ?_; conv => whnf)
    | (refine mapK_row (by assumption) ?_; conv => whnf)
    | (refine mapK_plain (Plain.of rfl) ?_; conv => whnf)
    | (refine mapK_lit ?_; conv => whnf)
    | (refine br_split (fun _ => ?_) (fun _ => ?_) <;> conv => whnf)
    | exact (rfl : (_ : Value) = _)
    | (simp only [*]; exact (rfl : (_ : Value) = _))
    | (simp [*]; done))

theorem c_Clone {C : List Value} {o n c : Nat} {L : List S3} (h1 : RowO C o (sl L) n c 3) (hn : n ≤ 100000000) : CallOK Try.prog n_slices_Clone_Spot [.slice (some ⟨0, o, none⟩) n c] [(C, none)] (fun v m_ => ∃ n2 c2 s2, Row (sl L) s2 n2 c2 3 ∧ v = .slice (some ⟨1, 0, none⟩) n2 c2 ∧ m_ = [(C, none), (sl L ++ s2, some t_impl_Spot)]) := by
  refine callOK_ofF good fn_slices_Clone_Spot ?_
  conv => whnf
  all_goals (repeat' first
    | (show AppK _ _ _ 3 _ _ _ _ _; refine app_row (L := []) (sp := []) (news := sl L) Row.empty rfl rfl h1.at_ h1.len (sl_plain _) rfl rfl (by decide) (by show (0 + _) * 24 ≤ _; omega) (by omega) (fun hle_ sra_ rra_ => ?_) (fun hle_ cra_ sra_ rra_ => ?_) <;> conv => whnf)
    | (rw [List.nil_append] at rra_; exact out_forget [_] ⟨_, _, _, rra_, rfl, rfl⟩ rfl (okB2_spec rfl) ⟨⟨⟨_, rfl, .plain rfl rfl (RowO.all h1)⟩⟩, ⟨⟨_, rfl, .plain (by first | rfl | rw [List.nil_append]) rfl (Row.all rra_)⟩⟩, trivial⟩ rfl rfl)
    | (refine StoreK.mk rfl ?_; conv => whnf)
    | exact join_same
    | exact (by assumption : (_ : Bool) = (_ : Bool))
    | (refine br_true (by assumption) ?_; conv => whnf)
    | (refine br_false (by assumption) ?_; conv => whnf)
    | (refine br_not ?_; conv => whnf)
    | (refine br_code ?_; conv => whnf)
    | (with_reducible refine br_and ?_; conv => whnf)
    | (with_reducible refine br_or ?_; conv => whnf)
    | (refine br_eq2 ?_; conv => whnf)
    | (refine draw_auto (by decide +kernel) ?_; conv => whnf)
    | (refine draw_asg (by decide +kernel) ?_; conv => whnf)
    | (refine draw_st (by decide +kernel) ?_; conv => whnf)
    | (refine draw_call (by decide +kernel) ?_; conv => whnf)
    | (refine enter_same (loop_n 12 ?_); conv => whnf)
    | (refine next_same ?_; conv => whnf)
    | (refine mapK_row (by assumption) ?_; conv => whnf)
    | (refine mapK_plain (Plain.of rfl) ?_; conv => whnf)
    | (refine mapK_lit ?_; conv => whnf)
    | (refine br_split (fun _ => ?_) (fun _ => ?_) <;> conv => whnf)
    | exact (rfl : (_ : Value) = _)
    | (simp only [*]; exact (rfl : (_ : Value) = _))
    | (simp [*]; done))

end Go.Proofs.Ytndmkibdcfpddaa
