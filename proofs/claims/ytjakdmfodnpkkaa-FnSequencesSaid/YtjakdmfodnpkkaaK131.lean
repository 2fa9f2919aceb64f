/-
  Contracts of functions of the program (printed by a program of this work; Lean checks each).
  Conditions: as each contract states.
-/
import Derived.Test.YtjakdmfodnpkkaaK130
import Derived.Test.YtjakdmfodnpkkaaKM2
namespace Go.Proofs.Ytjakdmfodnpkkaa
open Go.Ev Go.RowKit
set_option maxRecDepth 100000
set_option linter.unusedVariables false
set_option linter.unusedSimpArgs false

set_option maxHeartbeats 4000000 in
theorem c_DrAnl_L {zs : List Int} {off n c : Nat} (hz : n ≤ zs.length) (hb : ∀ z ∈ zs, IsByte z) (hn : n ≤ 4096) : CallOK Try.prog n_spec_DrawAngleOfSequence [.slice (some ⟨0, off, none⟩) n c] [(away off (bl zs), none)] (fun v m_ => ∃ (xs : List Int) (sp_ : List Value) (nn cc : Nat), Row (il xs) sp_ nn cc 1 ∧ nn ≤ 15 ∧ nn % 2 = 1 ∧ (v = .slice (some ⟨1, 0, none⟩) nn cc ∨ v = .slice (some ⟨1, offK cc (Int.toNat 1) 0 1, none⟩) (subK nn (Int.toNat 1)) (subK cc (Int.toNat 1))) ∧ m_ = [(away off (bl zs), none), (il xs ++ sp_, some 2)]) := by
  refine callOK_ofF good fn_spec_DrawAngleOfSequence ?_
  conv => whnf
  all_goals (repeat' first
    | (refine enter_forget [1, 2] (loop_rec (fun (s : Int × Int × Int × (List Int) × (List Value) × Nat × Nat) => match s with | (k_, o2, h2, X, S, q, e) => [.slice (some ⟨0, off, none⟩) n c, wild, .slice none 0 0, .pointer (some ⟨1, 0, none⟩), .slice (some ⟨2, 0, none⟩) q e, ii my_, ii k_, wild, wild, wild, wild, wild, wild, wild, wild, wild, wild, wild, wild, wild, wild, wild, wild, wild, wild, wild, wild, wild, wild, wild, wild, wild, wild, wild, wild, wild, wild, wild, wild, wild, wild, wild, wild, wild, wild]) (fun (s : Int × Int × Int × (List Int) × (List Value) × Nat × Nat) => match s with | (k_, o2, h2, X, S, q, e) => [(away off (bl zs), none), ([.slice (some ⟨0, off, none⟩) n c, ii o2, wv h2], some t_spec_l01Source), (il X ++ S, some 2)]) (fun (s : Int × Int × Int × (List Int) × (List Value) × Nat × Nat) => match s with | (k_, o2, h2, X, S, q, e) => k_.toNat) (fun (s : Int × Int × Int × (List Int) × (List Value) × Nat × Nat) => match s with | (k_, o2, h2, X, S, q, e) => SrcAt n o2 ∧ DsI (w64 (1 + w64 (2 * xn_))) k_ X S q e) ((w64 (1 + w64 (2 * xn_))), _, _, [], [], 0, 0) ⟨ha_, DsI.start (by simp only [List.mem_cons, List.not_mem_nil, or_false] at hy_; have := hxn_ (by omega); omega)⟩ ?_) (tmR_rfl rfl rfl) ⟨⟨⟨_, rfl, .lit (away_conc (bl_plain _) _).symm rfl (away_ok (bl_plain _) _)⟩⟩, ⟨⟨_, rfl, .lit rfl rfl (fun v hv => okB0_spec (allL_spec rfl v hv))⟩⟩, ⟨⟨_, rfl, .plain rfl rfl Plain.nil⟩⟩, trivial⟩ rfl rfl; rintro fuel_ ⟨k_, o2, h2, X, S, q, e⟩ hI IH; replace hI : SrcAt n o2 ∧ DsI (w64 (1 + w64 (2 * xn_))) k_ X S q e := hI; conv => whnf)
    | exact next_forget [1, 2] (IH (w64 (k_ - 1), _, _, X ++ [w64 (1 + x_)], spa_, q + 1, e) (by exact ⟨ha_, hI.2.next (by assumption) ra_⟩) (by exact hI.2.mu (by assumption))) (tmR_rfl rfl rfl) ⟨⟨⟨_, rfl, .lit (away_conc (bl_plain _) _).symm rfl (away_ok (bl_plain _) _)⟩⟩, ⟨⟨_, rfl, .lit rfl rfl (fun v hv => okB0_spec (allL_spec rfl v hv))⟩⟩, ⟨⟨_, rfl, .plain (by simp [il]) rfl (by first | exact Row.all ra_ | (rw [show ∀ (X : List Int) (v : Int), il (X ++ [v]) = il X ++ [iv v] from fun X v => by simp [il]]; exact Row.all ra_))⟩⟩, trivial⟩ rfl rfl
    | exact next_forget [1, _] (IH (w64 (k_ - 1), _, _, X ++ [w64 (1 + x_)], spa_, q + 1, ca_) (by exact ⟨ha_, hI.2.next (by assumption) ra_⟩) (by exact hI.2.mu (by assumption))) (tmR_rfl rfl rfl) ⟨⟨⟨_, rfl, .lit (away_conc (bl_plain _) _).symm rfl (away_ok (bl_plain _) _)⟩⟩, ⟨⟨_, rfl, .lit rfl rfl (fun v hv => okB0_spec (allL_spec rfl v hv))⟩⟩, ⟨⟨_, rfl, .plain (by simp [il]) rfl (by first | exact Row.all ra_ | (rw [show ∀ (X : List Int) (v : Int), il (X ++ [v]) = il X ++ [iv v] from fun X v => by simp [il]]; exact Row.all ra_))⟩⟩, trivial⟩ rfl rfl
    | (refine CallOK.useR (c_From_L hz hb hn) [0] rfl rfl rfl ⟨⟨⟨_, rfl, .lit (away_conc (bl_plain _) _).symm (fun _ h_ => by cases h_) (away_ok (bl_plain _) _)⟩⟩, trivial⟩ (fun v_ mem_ hR => ?_); obtain ⟨h_, rfl, rfl⟩ := hR; have ha_ := SrcAt.zero n; refine ⟨rfl, ?_⟩; (conv => whnf); refine mapK_eval (cs' := [.slice (some ⟨0, off, none⟩) n c, ii 0, wv h_]) rfl ?_; conv => whnf)
    | (refine CallOK.useD (c_Next_L hz hb hn hI.1) [0, 1] rfl rfl rfl ⟨⟨⟨_, rfl, .lit (away_conc (bl_plain _) _).symm (fun _ h_ => by cases h_) (away_ok (bl_plain _) _)⟩⟩, ⟨⟨_, rfl, .lit rfl (fun _ h_ => h_) (fun v hv => okB0_spec (allL_spec rfl v hv))⟩⟩, trivial⟩ (fun v_ mem_ hR => ?_); obtain ⟨x_, o_, h_, hx_, ha_, rfl, rfl⟩ := hR; refine ⟨rfl, ii x_, fun _ => rfl, ?_⟩; (conv => whnf); refine mapK_eval (cs' := [.slice (some ⟨0, off, none⟩) n c, ii o_, wv h_]) rfl ?_; conv => whnf)
    | (refine CallOK.useD (c_Next_L hz hb hn (by assumption)) [0, 1] rfl rfl rfl ⟨⟨⟨_, rfl, .lit (away_conc (bl_plain _) _).symm (fun _ h_ => by cases h_) (away_ok (bl_plain _) _)⟩⟩, ⟨⟨_, rfl, .lit rfl (fun _ h_ => h_) (fun v hv => okB0_spec (allL_spec rfl v hv))⟩⟩, trivial⟩ (fun v_ mem_ hR => ?_); obtain ⟨xn_, o_, h_, hxn_, ha_, rfl, rfl⟩ := hR; refine ⟨rfl, ii xn_, fun _ => rfl, ?_⟩; (conv => whnf); refine mapK_eval (cs' := [.slice (some ⟨0, off, none⟩) n c, ii o_, wv h_]) rfl ?_; conv => whnf)
    | (refine CallOK.useD (c_Pick_L (xs := [1, 2, 4, 100]) hz hb hn (by assumption) (by decide) (by decide)) [0, 1, 3] rfl rfl rfl ⟨⟨⟨_, rfl, .lit (away_conc (bl_plain _) _).symm (fun _ h_ => by cases h_) (away_ok (bl_plain _) _)⟩⟩, ⟨⟨_, rfl, .lit rfl (fun _ h_ => h_) (fun v hv => okB0_spec (allL_spec rfl v hv))⟩⟩, ⟨⟨_, rfl, .plain rfl (fun _ h_ => by cases h_) (il_plain _)⟩⟩, trivial⟩ (fun v_ mem_ hR => ?_); obtain ⟨my_, o_, h_, ha_, rfl, rfl⟩ := hR; refine ⟨rfl, ii my_, fun _ => rfl, ?_⟩; (conv => whnf); refine mapK_eval (cs' := [.slice (some ⟨0, off, none⟩) n c, ii o_, wv h_]) rfl ?_; conv => whnf)
    | (refine CallOK.useD (c_PickM_L (xs := [2, 4, 8]) hz hb hn (by assumption) (by decide) (by decide)) [0, 1, 4] rfl rfl rfl ⟨⟨⟨_, rfl, .lit (away_conc (bl_plain _) _).symm (fun _ h_ => by cases h_) (away_ok (bl_plain _) _)⟩⟩, ⟨⟨_, rfl, .lit rfl (fun _ h_ => h_) (fun v hv => okB0_spec (allL_spec rfl v hv))⟩⟩, ⟨⟨_, rfl, .plain rfl (fun _ h_ => by cases h_) (il_plain _)⟩⟩, trivial⟩ (fun v_ mem_ hR => ?_); obtain ⟨y_, o_, h_, hy_, ha_, rfl, rfl⟩ := hR; refine ⟨rfl, ii y_, fun _ => rfl, ?_⟩; (conv => whnf); refine mapK_eval (cs' := [.slice (some ⟨0, off, none⟩) n c, ii o_, wv h_]) rfl ?_; conv => whnf)
    | (refine CallOK.useD (c_Pick_L (xs := [0, -1, 1000001, 1099511627776]) hz hb hn ha_ (by decide) (by decide)) [0, 1, 3] rfl rfl rfl ⟨⟨⟨_, rfl, .lit (away_conc (bl_plain _) _).symm (fun _ h_ => by cases h_) (away_ok (bl_plain _) _)⟩⟩, ⟨⟨_, rfl, .lit rfl (fun _ h_ => h_) (fun v hv => okB0_spec (allL_spec rfl v hv))⟩⟩, ⟨⟨_, rfl, .plain rfl (fun _ h_ => by cases h_) (il_plain _)⟩⟩, trivial⟩ (fun v_ mem_ hR => ?_); obtain ⟨y_, o_, h_, ha_, rfl, rfl⟩ := hR; refine ⟨rfl, ii y_, fun _ => rfl, ?_⟩; (conv => whnf); refine mapK_eval (cs' := [.slice (some ⟨0, off, none⟩) n c, ii o_, wv h_]) rfl ?_; conv => whnf)
    | (show AppK _ _ _ 1 _ _ _ _ _; refine app_lit hI.2.row rfl rfl rfl (Plain.of rfl) rfl rfl (by decide) (by have := hI.2.bd; show (_ + 1) * 8 ≤ _; omega) (by have := hI.2.bd; omega) (fun hle_ spa_ ra_ => ?_) (fun hle_ ca_ spa_ ra_ => ?_) <;> conv => whnf)
    | (refine br_true (decide_eq_true (show (0 : Int) ≤ 1 ∧ (1 : Int) ≤ _ from ⟨by omega, by have := (hI.2.fin (by assumption)).1; omega⟩)) ?_; conv => whnf)
    | (refine br_in (by omega) (by have := (hI.2.fin (by assumption)).1; omega) ?_; conv => whnf)
    | (refine StoreK.mk ?_ ?_; (focus (have h1_ := (hI.2.fin (by assumption)).1; have h2_ := row_il hI.2.row; have h3_ : (0 + Int.toNat 0 * 1 + 1 : Nat) ≤ (il X ++ S).length := (by rw [List.length_append, il_len]; simp; omega); exact Nat.ble_eq_true_of_le h3_)); (refine force_il (xs := X) (off := 0 + Int.toNat 0 * 1) ?_ rfl ?_); (focus (have := (hI.2.fin (by assumption)).1; have := row_il hI.2.row; show 0 < _; omega)); conv => whnf)
    | (refine force_il (xs := X) ?_ rfl ?_; (focus (have := (hI.2.fin (by assumption)).1; have := row_il hI.2.row; omega)); conv => whnf)
    | (show OutK _ _ _ _; have hrw_ := (row_set0 hI.2.row y_); have hf_ := hI.2.fin (by assumption); exact out_forget [_] ⟨_, _, _, _, hrw_, hI.2.bd, hf_.2, .inl rfl, rfl⟩ rfl (okB2_spec rfl) ⟨⟨⟨_, rfl, .lit (away_conc (bl_plain _) _).symm rfl (away_ok (bl_plain _) _)⟩⟩, ⟨⟨_, rfl, .plain rfl rfl (Row.all (row_set0 hI.2.row y_))⟩⟩, trivial⟩ rfl rfl)
    | (show OutK _ _ _ _; have hrw_ := hI.2.row; have hf_ := hI.2.fin (by assumption); exact out_forget [_] ⟨_, _, _, _, hrw_, hI.2.bd, hf_.2, .inl rfl, rfl⟩ rfl (okB2_spec rfl) ⟨⟨⟨_, rfl, .lit (away_conc (bl_plain _) _).symm rfl (away_ok (bl_plain _) _)⟩⟩, ⟨⟨_, rfl, .plain rfl rfl (Row.all hI.2.row)⟩⟩, trivial⟩ rfl rfl)
    | (show OutK _ _ _ _; have hrw_ := hI.2.row; have hf_ := hI.2.fin (by assumption); exact out_forget [_] ⟨_, _, _, _, hrw_, hI.2.bd, hf_.2, .inr rfl, rfl⟩ rfl (okB2_spec rfl) ⟨⟨⟨_, rfl, .lit (away_conc (bl_plain _) _).symm rfl (away_ok (bl_plain _) _)⟩⟩, ⟨⟨_, rfl, .plain rfl rfl (Row.all hI.2.row)⟩⟩, trivial⟩ rfl rfl)
    | (refine StoreK.mk rfl ?_; conv => whnf)
    | exact join_same
    | exact (by assumption : (_ : Bool) = (_ : Bool))
    | (refine br_true (by assumption) ?_; conv => whnf)
    | (refine br_false (by assumption) ?_; conv => whnf)
    | (refine br_not ?_; conv => whnf)
    | (refine br_code ?_; conv => whnf)
    | (with_reducible refine br_and ?_; conv => whnf)
    | (with_reducible refine br_or ?_; conv => whnf)
    | (refine br_eq2 ?_; conv => whnf)
    | (refine draw_auto (by decide +kernel) ?_; conv => whnf)
    | (refine draw_asg (by decide +kernel) ?_; conv => whnf)
    | (refine draw_st (by decide +kernel) ?_; conv => whnf)
    | (refine draw_call (by decide +kernel) ?_; conv => whnf)
    | (refine enter_same (loop_n 12 ?_); conv => whnf)
    | (refine next_same ?_; conv => whnf)
    | (refine mapK_row (by assumption) ?_; conv => whnf)
    | (refine mapK_plain (Plain.of rfl) ?_; conv => whnf)
    | (refine mapK_lit ?_; conv => whnf)
    | (refine br_split (fun _ => ?_) (fun _ => ?_) <;> conv => whnf)
    | exact (rfl : (_ : Value) = _)
    | (simp only [*]; exact (rfl : (_ : Value) = _))
    | (simp [*]; done))

set_option maxHeartbeats 4000000 in
theorem c_DrAnl_N   : CallOK Try.prog n_spec_DrawAngleOfSequence [.slice none 0 0] [] (fun v m_ => ∃ (xs : List Int) (sp_ : List Value) (nn cc : Nat), Row (il xs) sp_ nn cc 1 ∧ nn ≤ 15 ∧ nn % 2 = 1 ∧ (v = .slice (some ⟨0, 0, none⟩) nn cc ∨ v = .slice (some ⟨0, offK cc (Int.toNat 1) 0 1, none⟩) (subK nn (Int.toNat 1)) (subK cc (Int.toNat 1))) ∧ m_ = [(il xs ++ sp_, some 2)]) := by
  refine callOK_ofF good fn_spec_DrawAngleOfSequence ?_
  conv => whnf
  all_goals (repeat' first
    | (refine enter_forget [0, 1] (loop_rec (fun (s : Int × Int × Int × (List Int) × (List Value) × Nat × Nat) => match s with | (k_, o2, h2, X, S, q, e) => [.slice none 0 0, wild, .slice none 0 0, .pointer (some ⟨0, 0, none⟩), .slice (some ⟨1, 0, none⟩) q e, ii my_, ii k_, wild, wild, wild, wild, wild, wild, wild, wild, wild, wild, wild, wild, wild, wild, wild, wild, wild, wild, wild, wild, wild, wild, wild, wild, wild, wild, wild, wild, wild, wild, wild, wild, wild, wild, wild, wild, wild, wild]) (fun (s : Int × Int × Int × (List Int) × (List Value) × Nat × Nat) => match s with | (k_, o2, h2, X, S, q, e) => [([.slice none 0 0, ii o2, wv h2], some t_spec_l01Source), (il X ++ S, some 2)]) (fun (s : Int × Int × Int × (List Int) × (List Value) × Nat × Nat) => match s with | (k_, o2, h2, X, S, q, e) => k_.toNat) (fun (s : Int × Int × Int × (List Int) × (List Value) × Nat × Nat) => match s with | (k_, o2, h2, X, S, q, e) => SrcAt 0 o2 ∧ DsI (w64 (1 + w64 (2 * xn_))) k_ X S q e) ((w64 (1 + w64 (2 * xn_))), _, _, [], [], 0, 0) ⟨ha_, DsI.start (by simp only [List.mem_cons, List.not_mem_nil, or_false] at hy_; have := hxn_ (by omega); omega)⟩ ?_) (tmR_rfl rfl rfl) ⟨⟨⟨_, rfl, .lit rfl rfl (fun v hv => okB0_spec (allL_spec rfl v hv))⟩⟩, ⟨⟨_, rfl, .plain rfl rfl Plain.nil⟩⟩, trivial⟩ rfl rfl; rintro fuel_ ⟨k_, o2, h2, X, S, q, e⟩ hI IH; replace hI : SrcAt 0 o2 ∧ DsI (w64 (1 + w64 (2 * xn_))) k_ X S q e := hI; conv => whnf)
    | exact next_forget [0, 1] (IH (w64 (k_ - 1), _, _, X ++ [w64 (1 + x_)], spa_, q + 1, e) (by exact ⟨ha_, hI.2.next (by assumption) ra_⟩) (by exact hI.2.mu (by assumption))) (tmR_rfl rfl rfl) ⟨⟨⟨_, rfl, .lit rfl rfl (fun v hv => okB0_spec (allL_spec rfl v hv))⟩⟩, ⟨⟨_, rfl, .plain (by simp [il]) rfl (by first | exact Row.all ra_ | (rw [show ∀ (X : List Int) (v : Int), il (X ++ [v]) = il X ++ [iv v] from fun X v => by simp [il]]; exact Row.all ra_))⟩⟩, trivial⟩ rfl rfl
    | exact next_forget [0, _] (IH (w64 (k_ - 1), _, _, X ++ [w64 (1 + x_)], spa_, q + 1, ca_) (by exact ⟨ha_, hI.2.next (by assumption) ra_⟩) (by exact hI.2.mu (by assumption))) (tmR_rfl rfl rfl) ⟨⟨⟨_, rfl, .lit rfl rfl (fun v hv => okB0_spec (allL_spec rfl v hv))⟩⟩, ⟨⟨_, rfl, .plain (by simp [il]) rfl (by first | exact Row.all ra_ | (rw [show ∀ (X : List Int) (v : Int), il (X ++ [v]) = il X ++ [iv v] from fun X v => by simp [il]]; exact Row.all ra_))⟩⟩, trivial⟩ rfl rfl
    | (refine CallOK.useR (c_From_N) [] rfl rfl rfl trivial (fun v_ mem_ hR => ?_); obtain ⟨h_, rfl, rfl⟩ := hR; have ha_ := SrcAt.zero 0; refine ⟨rfl, ?_⟩; (conv => whnf); refine mapK_eval (cs' := [.slice none 0 0, ii 0, wv h_]) rfl ?_; conv => whnf)
    | (refine CallOK.useD (c_Next_N hI.1) [0] rfl rfl rfl ⟨⟨⟨_, rfl, .lit rfl (fun _ h_ => h_) (fun v hv => okB0_spec (allL_spec rfl v hv))⟩⟩, trivial⟩ (fun v_ mem_ hR => ?_); obtain ⟨x_, o_, h_, hx_, ha_, rfl, rfl⟩ := hR; refine ⟨rfl, ii x_, fun _ => rfl, ?_⟩; (conv => whnf); refine mapK_eval (cs' := [.slice none 0 0, ii o_, wv h_]) rfl ?_; conv => whnf)
    | (refine CallOK.useD (c_Next_N (by assumption)) [0] rfl rfl rfl ⟨⟨⟨_, rfl, .lit rfl (fun _ h_ => h_) (fun v hv => okB0_spec (allL_spec rfl v hv))⟩⟩, trivial⟩ (fun v_ mem_ hR => ?_); obtain ⟨xn_, o_, h_, hxn_, ha_, rfl, rfl⟩ := hR; refine ⟨rfl, ii xn_, fun _ => rfl, ?_⟩; (conv => whnf); refine mapK_eval (cs' := [.slice none 0 0, ii o_, wv h_]) rfl ?_; conv => whnf)
    | (refine CallOK.useD (c_Pick_N (xs := [1, 2, 4, 100]) (by assumption) (by decide) (by decide)) [0, 2] rfl rfl rfl ⟨⟨⟨_, rfl, .lit rfl (fun _ h_ => h_) (fun v hv => okB0_spec (allL_spec rfl v hv))⟩⟩, ⟨⟨_, rfl, .plain rfl (fun _ h_ => by cases h_) (il_plain _)⟩⟩, trivial⟩ (fun v_ mem_ hR => ?_); obtain ⟨my_, o_, h_, ha_, rfl, rfl⟩ := hR; refine ⟨rfl, ii my_, fun _ => rfl, ?_⟩; (conv => whnf); refine mapK_eval (cs' := [.slice none 0 0, ii o_, wv h_]) rfl ?_; conv => whnf)
    | (refine CallOK.useD (c_PickM_N (xs := [2, 4, 8]) (by assumption) (by decide) (by decide)) [0, 3] rfl rfl rfl ⟨⟨⟨_, rfl, .lit rfl (fun _ h_ => h_) (fun v hv => okB0_spec (allL_spec rfl v hv))⟩⟩, ⟨⟨_, rfl, .plain rfl (fun _ h_ => by cases h_) (il_plain _)⟩⟩, trivial⟩ (fun v_ mem_ hR => ?_); obtain ⟨y_, o_, h_, hy_, ha_, rfl, rfl⟩ := hR; refine ⟨rfl, ii y_, fun _ => rfl, ?_⟩; (conv => whnf); refine mapK_eval (cs' := [.slice none 0 0, ii o_, wv h_]) rfl ?_; conv => whnf)
    | (refine CallOK.useD (c_Pick_N (xs := [0, -1, 1000001, 1099511627776]) ha_ (by decide) (by decide)) [0, 2] rfl rfl rfl ⟨⟨⟨_, rfl, .lit rfl (fun _ h_ => h_) (fun v hv => okB0_spec (allL_spec rfl v hv))⟩⟩, ⟨⟨_, rfl, .plain rfl (fun _ h_ => by cases h_) (il_plain _)⟩⟩, trivial⟩ (fun v_ mem_ hR => ?_); obtain ⟨y_, o_, h_, ha_, rfl, rfl⟩ := hR; refine ⟨rfl, ii y_, fun _ => rfl, ?_⟩; (conv => whnf); refine mapK_eval (cs' := [.slice none 0 0, ii o_, wv h_]) rfl ?_; conv => whnf)
    | (show AppK _ _ _ 1 _ _ _ _ _; refine app_lit hI.2.row rfl rfl rfl (Plain.of rfl) rfl rfl (by decide) (by have := hI.2.bd; show (_ + 1) * 8 ≤ _; omega) (by have := hI.2.bd; omega) (fun hle_ spa_ ra_ => ?_) (fun hle_ ca_ spa_ ra_ => ?_) <;> conv => whnf)
    | (refine br_true (decide_eq_true (show (0 : Int) ≤ 1 ∧ (1 : Int) ≤ _ from ⟨by omega, by have := (hI.2.fin (by assumption)).1; omega⟩)) ?_; conv => whnf)
    | (refine br_in (by omega) (by have := (hI.2.fin (by assumption)).1; omega) ?_; conv => whnf)
    | (refine StoreK.mk ?_ ?_; (focus (have h1_ := (hI.2.fin (by assumption)).1; have h2_ := row_il hI.2.row; have h3_ : (0 + Int.toNat 0 * 1 + 1 : Nat) ≤ (il X ++ S).length := (by rw [List.length_append, il_len]; simp; omega); exact Nat.ble_eq_true_of_le h3_)); (refine force_il (xs := X) (off := 0 + Int.toNat 0 * 1) ?_ rfl ?_); (focus (have := (hI.2.fin (by assumption)).1; have := row_il hI.2.row; show 0 < _; omega)); conv => whnf)
    | (refine force_il (xs := X) ?_ rfl ?_; (focus (have := (hI.2.fin (by assumption)).1; have := row_il hI.2.row; omega)); conv => whnf)
    | (show OutK _ _ _ _; have hrw_ := (row_set0 hI.2.row y_); have hf_ := hI.2.fin (by assumption); exact out_forget [_] ⟨_, _, _, _, hrw_, hI.2.bd, hf_.2, .inl rfl, rfl⟩ rfl (okB2_spec rfl) ⟨⟨⟨_, rfl, .plain rfl rfl (Row.all (row_set0 hI.2.row y_))⟩⟩, trivial⟩ rfl rfl)
    | (show OutK _ _ _ _; have hrw_ := hI.2.row; have hf_ := hI.2.fin (by assumption); exact out_forget [_] ⟨_, _, _, _, hrw_, hI.2.bd, hf_.2, .inl rfl, rfl⟩ rfl (okB2_spec rfl) ⟨⟨⟨_, rfl, .plain rfl rfl (Row.all hI.2.row)⟩⟩, trivial⟩ rfl rfl)
    | (show OutK _ _ _ _; have hrw_ := hI.2.row; have hf_ := hI.2.fin (by assumption); exact out_forget [_] ⟨_, _, _, _, hrw_, hI.2.bd, hf_.2, .inr rfl, rfl⟩ rfl (okB2_spec rfl) ⟨⟨⟨_, rfl, .plain rfl rfl (Row.all hI.2.row)⟩⟩, trivial⟩ rfl rfl)
    | (refine StoreK.mk rfl ?_; conv => whnf)
    | exact join_same
    | exact (by assumption : (_ : Bool) = (_ : Bool))
    | (refine br_true (by assumption) ?_; conv => whnf)
    | (refine br_false (by assumption) ?_; conv => whnf)
    | (refine br_not ?_; conv => whnf)
    | (refine br_code ?_; conv => whnf)
    | (with_reducible refine br_and ?_; conv => whnf)
    | (with_reducible refine br_or ?_; conv => whnf)
    | (refine br_eq2 ?_; conv => whnf)
    | (refine draw_auto (by decide +kernel) ?_; conv => whnf)
    | (refine draw_asg (by decide +kernel) ?_; conv => whnf)
    | (refine draw_st (by decide +kernel) ?_; conv => whnf)
    | (refine draw_call (by decide +kernel) ?_; conv => whnf)
    | (refine enter_same (loop_n 12 ?_); conv => whnf)
    | (refine next_same ?_; conv => whnf)
    | (refine mapK_row (by assumption) ?_; conv => whnf)
    | (refine mapK_plain (Plain.of rfl) ?_; conv => whnf)
    | (refine mapK_lit ?_; conv => whnf)
    | (refine br_split (fun _ => ?_) (fun _ => ?_) <;> conv => whnf)
    | exact (rfl : (_ : Value) = _)
    | (simp only [*]; exact (rfl : (_ : Value) = _))
    | (simp [*]; done))

end Go.Proofs.Ytjakdmfodnpkkaa
