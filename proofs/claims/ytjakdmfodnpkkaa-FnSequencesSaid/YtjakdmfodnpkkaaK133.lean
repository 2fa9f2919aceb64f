/-
  Contracts of functions of the program (printed by a program of this work; Lean checks each).
  Conditions: as each contract states.
-/
import Derived.Test.YtjakdmfodnpkkaaK131
import Derived.Test.YtjakdmfodnpkkaaK132
namespace Go.Proofs.Ytjakdmfodnpkkaa
open Go.Ev Go.RowKit
set_option maxRecDepth 100000
set_option linter.unusedVariables false
set_option linter.unusedSimpArgs false

theorem c_likeInts {xs : List Int} {sp sq : List Value} {n n2 c c2 : Nat} (h1 : Row (il xs) sp n c 1) (h2 : Row (il xs) sq n2 c2 1) (hn : n ≤ 1000000000) : CallOK Try.prog n_laws_likeInts [.slice (some ⟨0, 0, none⟩) n c, .slice (some ⟨1, 0, none⟩) n2 c2] [(il xs ++ sp, none), (il xs ++ sq, none)] (fun v m_ => v = bb true ∧ m_ = [(il xs ++ sp, none), (il xs ++ sq, none)]) := by
  obtain rfl := row_same h1 h2 (by decide); refine callOK_ofF good fn_laws_likeInts ?_
  conv => whnf
  all_goals (repeat' first
    | (refine br_true ?_ ?_; (focus (simp; done)); conv => whnf)
    | (refine br_false ?_ ?_; (focus (simp; done)); conv => whnf)
    | (refine enter_forget [] (loop_rec (fun (s : Int) => match s with | i => [.slice (some ⟨0, 0, none⟩) n c, .slice (some ⟨1, 0, none⟩) n c2, wild, wild, wild, ii i, wild, wild, wild, wild, wild, wild, wild, wild, wild, wild, wild, wild, wild, wild, wild, wild, wild, wild, wild, wild]) (fun (s : Int) => match s with | i => [(il xs ++ sp, none), (il xs ++ sq, none)]) (fun (s : Int) => match s with | i => ((n : Int) - i).toNat) (fun (s : Int) => match s with | i => 0 ≤ i ∧ i ≤ (n : Int)) (0) (by (try clear IH); (try simp only [decide_eq_true_eq, decide_eq_false_iff_not, Bool.not_eq_true, Bool.not_eq_false, Bool.not_eq_eq_eq_not, Bool.not_true, Bool.not_false] at *); omega) ?_) (tmR_rfl rfl rfl) ⟨⟨⟨_, rfl, .plain rfl rfl (by first | exact Plain.of rfl | exact Row.all (by assumption))⟩⟩, ⟨⟨_, rfl, .plain rfl rfl (by first | exact Plain.of rfl | exact Row.all (by assumption))⟩⟩, trivial⟩ rfl rfl; rintro fuel_ i hI IH; replace hI : 0 ≤ i ∧ i ≤ (n : Int) := hI; conv => whnf)
    | exact next_forget [] (IH (w64 (i + 1)) (idx_next hI (by assumption) (by omega)) (idx_mu hI (by assumption) (by omega))) (tmR_rfl rfl rfl) ⟨⟨⟨_, rfl, .plain rfl rfl (by first | exact Plain.of rfl | exact Row.all (by assumption))⟩⟩, ⟨⟨_, rfl, .plain rfl rfl (by first | exact Plain.of rfl | exact Row.all (by assumption))⟩⟩, trivial⟩ rfl rfl
    | (refine br_in (by (try clear IH); (try simp only [decide_eq_true_eq, decide_eq_false_iff_not, Bool.not_eq_true, Bool.not_eq_false, Bool.not_eq_eq_eq_not, Bool.not_true, Bool.not_false] at *); omega) (by (try clear IH); (try simp only [decide_eq_true_eq, decide_eq_false_iff_not, Bool.not_eq_true, Bool.not_eq_false, Bool.not_eq_eq_eq_not, Bool.not_true, Bool.not_false] at *); omega) ?_; conv => whnf)
    | (refine force_eq (take_il (i := (i).toNat) (by omega) (by (try clear IH); have := row_il h1; (try simp only [decide_eq_true_eq, decide_eq_false_iff_not, Bool.not_eq_true, Bool.not_eq_false, Bool.not_eq_eq_eq_not, Bool.not_true, Bool.not_false] at *); omega)) ?_; conv => whnf)
    | (refine force_eq (take_il (i := (i).toNat) (by omega) (by (try clear IH); have := row_il h2; (try simp only [decide_eq_true_eq, decide_eq_false_iff_not, Bool.not_eq_true, Bool.not_eq_false, Bool.not_eq_eq_eq_not, Bool.not_true, Bool.not_false] at *); omega)) ?_; conv => whnf)
    | exact out_forget [] ⟨rfl, rfl⟩ rfl (okB2_spec rfl) ⟨⟨⟨_, rfl, .plain rfl rfl (by first | exact Plain.of rfl | exact Row.all (by assumption))⟩⟩, ⟨⟨_, rfl, .plain rfl rfl (by first | exact Plain.of rfl | exact Row.all (by assumption))⟩⟩, trivial⟩ rfl rfl
    | (refine StoreK.mk rfl ?_; conv => whnf)
    | exact join_same
    | exact (by assumption : (_ : Bool) = (_ : Bool))
    | (refine br_true (by assumption) ?_; conv => whnf)
    | (refine br_false (by assumption) ?_; conv => whnf)
    | (refine br_not ?_; conv => whnf)
    | (refine br_code ?_; conv => whnf)
    | (with_reducible refine br_and ?_; conv => whnf)
    | (with_reducible refine br_or ?_; conv => whnf)
    | (refine br_eq2 ?_; conv => whnf)
    | (refine draw_auto (by decide +kernel) ?_; conv => whnf)
    | (refine draw_asg (by decide +kernel) ?_; conv => whnf)
    | (refine draw_st (by decide +kernel) ?_; conv => whnf)
    | (refine draw_call (by decide +kernel) ?_; conv => whnf)
    | (refine enter_same (loop_n 12 ?_); conv => whnf)
    | (refine next_same ?_; conv => whnf)
    | (refine mapK_row (by assumption) ?_; conv => whnf)
    | (refine mapK_plain (Plain.of rfl) ?_; conv => whnf)
    | (refine mapK_lit ?_; conv => whnf)
    | (refine br_split (fun _ => ?_) (fun _ => ?_) <;> conv => whnf)
    | exact (rfl : (_ : Value) = _)
    | (simp only [*]; exact (rfl : (_ : Value) = _))
    | (simp [*]; done))

theorem c_likeInts_nil   : Pure Try.prog n_laws_likeInts [.slice none 0 0, .slice none 0 0] (bb true) := by
  refine pure_of good fn_laws_likeInts rfl rfl ?_
  conv => whnf
  all_goals (repeat' first
    | (refine br_true ?_ ?_; (focus (simp; done)); conv => whnf)
    | (refine br_false ?_ ?_; (focus (simp; done)); conv => whnf)
    | (refine StoreK.mk rfl ?_; conv => whnf)
    | exact join_same
    | exact (by assumption : (_ : Bool) = (_ : Bool))
    | (refine br_true (by assumption) ?_; conv => whnf)
    | (refine br_false (by assumption) ?_; conv => whnf)
    | (refine br_not ?_; conv => whnf)
    | (refine br_code ?_; conv => whnf)
    | (with_reducible refine br_and ?_; conv => whnf)
    | (with_reducible refine br_or ?_; conv => whnf)
    | (refine br_eq2 ?_; conv => whnf)
    | (refine draw_auto (by decide +kernel) ?_; conv => whnf)
    | (refine draw_asg (by decide +kernel) ?_; conv => whnf)
    | (refine draw_st (by decide +kernel) ?_; conv => whnf)
    | (refine draw_call (by decide +kernel) ?_; conv => whnf)
    | (refine enter_same (loop_n 12 ?_); conv => whnf)
    | (refine next_same ?_; conv => whnf)
    | (refine mapK_row (by assumption) ?_; conv => whnf)
    | (refine mapK_plain (Plain.of rfl) ?_; conv => whnf)
    | (refine mapK_lit ?_; conv => whnf)
    | (refine br_split (fun _ => ?_) (fun _ => ?_) <;> conv => whnf)
    | exact (rfl : (_ : Value) = _)
    | (simp only [*]; exact (rfl : (_ : Value) = _))
    | (simp [*]; done))

theorem c_points5 {ps : List (Int × Int)} {sp sq : List Value} {n n2 c c2 : Nat} (h1 : Row (pl ps) sp n c 2) (h2 : Row (pl ps) sq n2 c2 2) (hn : n ≤ 1000000000) : CallOK Try.prog n_laws_points5 [.slice (some ⟨0, 0, none⟩) n c, .slice (some ⟨1, 0, none⟩) n2 c2] [(pl ps ++ sp, some t_impl_Point), (pl ps ++ sq, some t_impl_Point)] (fun v m_ => v = bb true ∧ m_ = [(pl ps ++ sp, some t_impl_Point), (pl ps ++ sq, some t_impl_Point)]) := by
  obtain rfl := row_same h1 h2 (by decide); refine callOK_ofF good fn_laws_points5 ?_
  conv => whnf
  all_goals (repeat' first
    | (refine br_true ?_ ?_; (focus (simp; done)); conv => whnf)
    | (refine br_false ?_ ?_; (focus (simp; done)); conv => whnf)
    | (refine enter_forget [] (loop_rec (fun (s : Int) => match s with | i => [.slice (some ⟨0, 0, none⟩) n c, .slice (some ⟨1, 0, none⟩) n c2, wild, wild, wild, ii i, wild, wild, wild, wild, wild, wild, wild, wild, wild, wild, wild, wild, wild, wild, wild, wild, wild, wild, wild, wild]) (fun (s : Int) => match s with | i => [(pl ps ++ sp, some t_impl_Point), (pl ps ++ sq, some t_impl_Point)]) (fun (s : Int) => match s with | i => ((n : Int) - i).toNat) (fun (s : Int) => match s with | i => 0 ≤ i ∧ i ≤ (n : Int)) (0) (by (try clear IH); (try simp only [decide_eq_true_eq, decide_eq_false_iff_not, Bool.not_eq_true, Bool.not_eq_false, Bool.not_eq_eq_eq_not, Bool.not_true, Bool.not_false] at *); omega) ?_) (tmR_rfl rfl rfl) ⟨⟨⟨_, rfl, .plain rfl rfl (by first | exact Plain.of rfl | exact Row.all (by assumption))⟩⟩, ⟨⟨_, rfl, .plain rfl rfl (by first | exact Plain.of rfl | exact Row.all (by assumption))⟩⟩, trivial⟩ rfl rfl; rintro fuel_ i hI IH; replace hI : 0 ≤ i ∧ i ≤ (n : Int) := hI; conv => whnf)
    | exact next_forget [] (IH (w64 (i + 1)) (idx_next hI (by assumption) (by omega)) (idx_mu hI (by assumption) (by omega))) (tmR_rfl rfl rfl) ⟨⟨⟨_, rfl, .plain rfl rfl (by first | exact Plain.of rfl | exact Row.all (by assumption))⟩⟩, ⟨⟨_, rfl, .plain rfl rfl (by first | exact Plain.of rfl | exact Row.all (by assumption))⟩⟩, trivial⟩ rfl rfl
    | (refine br_in (by (try clear IH); (try simp only [decide_eq_true_eq, decide_eq_false_iff_not, Bool.not_eq_true, Bool.not_eq_false, Bool.not_eq_eq_eq_not, Bool.not_true, Bool.not_false] at *); omega) (by (try clear IH); (try simp only [decide_eq_true_eq, decide_eq_false_iff_not, Bool.not_eq_true, Bool.not_eq_false, Bool.not_eq_eq_eq_not, Bool.not_true, Bool.not_false] at *); omega) ?_; conv => whnf)
    | (refine force_eq (take_pt (i := (i).toNat) (by omega) (by (try clear IH); have := row_pl h1; (try simp only [decide_eq_true_eq, decide_eq_false_iff_not, Bool.not_eq_true, Bool.not_eq_false, Bool.not_eq_eq_eq_not, Bool.not_true, Bool.not_false] at *); omega)) ?_; conv => whnf)
    | (refine force_eq (take_pt (i := (i).toNat) (by omega) (by (try clear IH); have := row_pl h2; (try simp only [decide_eq_true_eq, decide_eq_false_iff_not, Bool.not_eq_true, Bool.not_eq_false, Bool.not_eq_eq_eq_not, Bool.not_true, Bool.not_false] at *); omega)) ?_; conv => whnf)
    | exact out_forget [] ⟨rfl, rfl⟩ rfl (okB2_spec rfl) ⟨⟨⟨_, rfl, .plain rfl rfl (by first | exact Plain.of rfl | exact Row.all (by assumption))⟩⟩, ⟨⟨_, rfl, .plain rfl rfl (by first | exact Plain.of rfl | exact Row.all (by assumption))⟩⟩, trivial⟩ rfl rfl
    | (refine StoreK.mk rfl ?_; conv => whnf)
    | exact join_same
    | exact (by assumption : (_ : Bool) = (_ : Bool))
    | (refine br_true (by assumption) ?_; conv => whnf)
    | (refine br_false (by assumption) ?_; conv => whnf)
    | (refine br_not ?_; conv => whnf)
    | (refine br_code ?_; conv => whnf)
    | (with_reducible refine br_and ?_; conv => whnf)
    | (with_reducible refine br_or ?_; conv => whnf)
    | (refine br_eq2 ?_; conv => whnf)
    | (refine draw_auto (by decide +kernel) ?_; conv => whnf)
    | (refine draw_asg (by decide +kernel) ?_; conv => whnf)
    | (refine draw_st (by decide +kernel) ?_; conv => whnf)
    | (refine draw_call (by decide +kernel) ?_; conv => whnf)
    | (refine enter_same (loop_n 12 ?_); conv => whnf)
    | (refine next_same ?_; conv => whnf)
    | (refine mapK_row (by assumption) ?_; conv => whnf)
    | (refine mapK_plain (Plain.of rfl) ?_; conv => whnf)
    | (refine mapK_lit ?_; conv => whnf)
    | (refine br_split (fun _ => ?_) (fun _ => ?_) <;> conv => whnf)
    | exact (rfl : (_ : Value) = _)
    | (simp only [*]; exact (rfl : (_ : Value) = _))
    | (simp [*]; done))

theorem c_points5_nil   : Pure Try.prog n_laws_points5 [.slice none 0 0, .slice none 0 0] (bb true) := by
  refine pure_of good fn_laws_points5 rfl rfl ?_
  conv => whnf
  all_goals (repeat' first
    | (refine br_true ?_ ?_; (focus (simp; done)); conv => whnf)
    | (refine br_false ?_ ?_; (focus (simp; done)); conv => whnf)
    | (refine StoreK.mk rfl ?_; conv => whnf)
    | exact join_same
    | exact (by assumption : (_ : Bool) = (_ : Bool))
    | (refine br_true (by assumption) ?_; conv => whnf)
    | (refine br_false (by assumption) ?_; conv => whnf)
    | (refine br_not ?_; conv => whnf)
    | (refine br_code ?_; conv => whnf)
    | (with_reducible refine br_and ?_; conv => whnf)
    | (with_reducible refine br_or ?_; conv => whnf)
    | (refine br_eq2 ?_; conv => whnf)
    | (refine draw_auto (by decide +kernel) ?_; conv => whnf)
    | (refine draw_asg (by decide +kernel) ?_; conv => whnf)
    | (refine draw_st (by decide +kernel) ?_; conv => whnf)
    | (refine draw_call (by decide +kernel) ?_; conv => whnf)
    | (refine enter_same (loop_n 12 ?_); conv => whnf)
    | (refine next_same ?_; conv => whnf)
    | (refine mapK_row (by assumption) ?_; conv => whnf)
    | (refine mapK_plain (Plain.of rfl) ?_; conv => whnf)
    | (refine mapK_lit ?_; conv => whnf)
    | (refine br_split (fun _ => ?_) (fun _ => ?_) <;> conv => whnf)
    | exact (rfl : (_ : Value) = _)
    | (simp only [*]; exact (rfl : (_ : Value) = _))
    | (simp [*]; done))

theorem c_Det_good {a b c d : Int} (h1 : isPtF a b = true) (h2 : isPtF c d = true) : Pure Try.prog n_impl_DeterminantOf [pt a b, pt c d] (t2 (ii (detF a b c d)) (ii 0)) := by
  refine pure_of good fn_impl_DeterminantOf rfl rfl ?_
  conv => whnf
  all_goals (repeat' first
    | (refine br_true (b := isPtF a b && isPtF c d) (by rw [h1, h2]; rfl) ?_; conv => whnf)
    | (refine br_false (b := !(isPtF a b && isPtF c d)) (by rw [h1, h2]; rfl) ?_; conv => whnf)
    | exact h1
    | exact h2
    | (refine StoreK.mk rfl ?_; conv => whnf)
    | exact join_same
    | exact (by assumption : (_ : Bool) = (_ : Bool))
    | (refine br_true (by assumption) ?_; conv => whnf)
    | (refine br_false (by assumption) ?_; conv => whnf)
    | (refine br_not ?_; conv => whnf)
    | (refine br_code ?_; conv => whnf)
    | (with_reducible refine br_and ?_; conv => whnf)
    | (with_reducible refine br_or ?_; conv => whnf)
    | (refine br_eq2 ?_; conv => whnf)
    | (refine c_points_2.call1 rfl rfl ⟨_, rfl⟩ ?_; conv => whnf)
    | (refine c_points_2.quiet1 rfl rfl ⟨_, rfl⟩ ?_; conv => whnf)
    | (refine c_points_3.call1 rfl rfl ⟨_, rfl⟩ ?_; conv => whnf)
    | (refine c_points_3.quiet1 rfl rfl ⟨_, rfl⟩ ?_; conv => whnf)
    | (refine c_points_1.call1 rfl rfl ⟨_, rfl⟩ ?_; conv => whnf)
    | (refine c_points_1.quiet1 rfl rfl ⟨_, rfl⟩ ?_; conv => whnf)
    | (refine c_impl_det.call ?_; conv => whnf)
    | (refine c_impl_det.quiet ?_; conv => whnf)
    | (refine draw_auto (by decide +kernel) ?_; conv => whnf)
    | (refine draw_asg (by decide +kernel) ?_; conv => whnf)
    | (refine draw_st (by decide +kernel) ?_; conv => whnf)
    | (refine draw_call (by decide +kernel) ?_; conv => whnf)
    | (refine enter_same (loop_n 12 ?_); conv => whnf)
    | (refine next_same ?_; conv => whnf)
    | (refine mapK_row (by assumption) ?_; conv => whnf)
    | (refine mapK_plain (Plain.of rfl) ?_; conv => whnf)
    | (refine mapK_lit ?_; conv => whnf)
    | (refine br_split (fun _ => ?_) (fun _ => ?_) <;> conv => whnf)
    | exact (rfl : (_ : Value) = _)
    | (simp only [*]; exact (rfl : (_ : Value) = _))
    | (simp [*]; done))

def lnT (T : List Int) : List Int := lenL (0 :: T ++ [0]) (vts (0 :: T ++ [0]))
def snT (T : List Int) : List Int := sinL (0 :: T ++ [0]) (vts (0 :: T ++ [0]))
def arV (a b c d : Int) : Int := if isAngF a b c d = true then (match sailR a b c d with | some r => w64 (((r.2.length + 2 : Nat) : Int) - 1) | none => 0) else 0
def arE (a b c d : Int) : Int := if isAngF a b c d = true then (match sailR a b c d with | some r => 0 | none => 3) else 1
theorem sqE_1 {a b c d : Int} (h : isAngF a b c d = false) : sqE a b c d = 1 := by unfold sqE; rw [h]; rfl
theorem sqE_3 {a b c d : Int} (h : AngOk a b c d) : sqE a b c d = 3 := by unfold sqE; rw [ang_no h]; rfl
theorem sailT_no {a b c d t : Int} (h : sailR a b c d = none) : sailT a b c d t = none := by unfold sailT; rw [h]; rfl
theorem c_Det_sail {a b c d : Int} {T : List Int} (h : SailG a b c d T) : Pure Try.prog n_impl_DeterminantOf [pt a b, pt c d] (t2 (ii (detF a b c d)) (ii 0)) := c_Det_good h.ok.ca h.ok.cb

theorem c_impl_Seq_good {a b c d : Int} {T : List Int} (h : SailG a b c d T) : CallOK Try.prog n_impl_SequenceOf [pt a b, pt c d] [] (fun v m_ => ∃ n c sp, Row (il (seqR 0 T)) sp n c 1 ∧ n ≤ 1000001 ∧ v = t2 (.slice (some ⟨0, 0, none⟩) n c) (ii 0) ∧ m_ = [(il (seqR 0 T) ++ sp, some 2)]) := by
  obtain ⟨P, hp⟩ := h.t 0
  have := c_impl_SequenceOf_ok h.ok hp
  rw [h.list] at this
  exact this
theorem c_spec_Seq_good {a b c d : Int} {T : List Int} (h : SailG a b c d T) : CallOK Try.prog n_spec_SequenceOf [pt a b, pt c d] [] (fun v m_ => ∃ n c sp, Row (il (seqR 0 T)) sp n c 1 ∧ n ≤ 1000001 ∧ v = t2 (.slice (some ⟨0, 0, none⟩) n c) (ii 0) ∧ m_ = [(il (seqR 0 T) ++ sp, some 2)]) := by
  obtain ⟨P, hp⟩ := h.t 2
  exact c_spec_SequenceOf_eq h.ok hp h.list2

theorem c_impl_Seq_bad {a b c d : Int} (h : SailX a b c d) : CallOK Try.prog n_impl_SequenceOf [pt a b, pt c d] [] (fun v m_ => v = t2 (.slice none 0 0) (ii (sqE a b c d)) ∧ m_ = []) := by
  rcases h.no with h1 | ⟨h1, h2⟩
  · rw [sqE_1 h1]; exact c_impl_SequenceOf_no1 h1
  · rw [sqE_3 h1]; exact c_impl_SequenceOf_no2 h1 (sailT_no h2)

theorem c_spec_Seq_bad {a b c d : Int} (h : SailX a b c d) : CallOK Try.prog n_spec_SequenceOf [pt a b, pt c d] [] (fun v m_ => v = t2 (.slice none 0 0) (ii (sqE a b c d)) ∧ m_ = []) := by
  rcases h.no with h1 | ⟨h1, h2⟩
  · rw [sqE_1 h1]; exact c_spec_SequenceOf_no1 h1
  · rw [sqE_3 h1]; exact c_spec_SequenceOf_no2 h1 (sailT_no h2)

theorem c_impl_Len_good {a b c d : Int} {T : List Int} (h : SailG a b c d T) : CallOK Try.prog n_impl_SailLengths [pt a b, pt c d] [] (fun v m_ => ∃ n c sp, Row (il (lnT T)) sp n c 1 ∧ n ≤ 1000001 ∧ v = t2 (.slice (some ⟨0, 0, none⟩) n c) (ii 0) ∧ m_ = [(il (lnT T) ++ sp, some 2)]) := by
  obtain ⟨P, hp⟩ := h.t 0
  have := c_impl_SailLengths_ok h.ok hp
  rw [(rfl : lenL (0 :: T ++ [0]) (vts (0 :: T ++ [0])) = lnT T)] at this
  exact this
theorem c_spec_Len_good {a b c d : Int} {T : List Int} (h : SailG a b c d T) : CallOK Try.prog n_spec_SailLengths [pt a b, pt c d] [] (fun v m_ => ∃ n c sp, Row (il (lnT T)) sp n c 1 ∧ n ≤ 1000001 ∧ v = t2 (.slice (some ⟨0, 0, none⟩) n c) (ii 0) ∧ m_ = [(il (lnT T) ++ sp, some 2)]) := by
  obtain ⟨P, hp⟩ := h.t 2
  exact c_spec_SailLengths_eq h.ok hp (len_ends 2 0 T)

theorem c_impl_Len_bad {a b c d : Int} (h : SailX a b c d) : CallOK Try.prog n_impl_SailLengths [pt a b, pt c d] [] (fun v m_ => v = t2 (.slice none 0 0) (ii (sqE a b c d)) ∧ m_ = []) := by
  rcases h.no with h1 | ⟨h1, h2⟩
  · rw [sqE_1 h1]; exact c_impl_SailLengths_no1 h1
  · rw [sqE_3 h1]; exact c_impl_SailLengths_no2 h1 (sailT_no h2)

theorem c_spec_Len_bad {a b c d : Int} (h : SailX a b c d) : CallOK Try.prog n_spec_SailLengths [pt a b, pt c d] [] (fun v m_ => v = t2 (.slice none 0 0) (ii (sqE a b c d)) ∧ m_ = []) := by
  rcases h.no with h1 | ⟨h1, h2⟩
  · rw [sqE_1 h1]; exact c_spec_SailLengths_no1 h1
  · rw [sqE_3 h1]; exact c_spec_SailLengths_no2 h1 (sailT_no h2)

theorem c_impl_Sin_good {a b c d : Int} {T : List Int} (h : SailG a b c d T) : CallOK Try.prog n_impl_SailSines [pt a b, pt c d] [] (fun v m_ => ∃ n c sp, Row (il (snT T)) sp n c 1 ∧ n ≤ 1000001 ∧ v = t2 (.slice (some ⟨0, 0, none⟩) n c) (ii 0) ∧ m_ = [(il (snT T) ++ sp, some 2)]) := by
  obtain ⟨P, hp⟩ := h.t 0
  have := c_impl_SailSines_ok h.ok hp
  rw [(rfl : sinL (0 :: T ++ [0]) (vts (0 :: T ++ [0])) = snT T)] at this
  exact this
theorem c_spec_Sin_good {a b c d : Int} {T : List Int} (h : SailG a b c d T) : CallOK Try.prog n_spec_SailSines [pt a b, pt c d] [] (fun v m_ => ∃ n c sp, Row (il (snT T)) sp n c 1 ∧ n ≤ 1000001 ∧ v = t2 (.slice (some ⟨0, 0, none⟩) n c) (ii 0) ∧ m_ = [(il (snT T) ++ sp, some 2)]) := by
  obtain ⟨P, hp⟩ := h.t 2
  exact c_spec_SailSines_eq h.ok hp (sin_ends 2 0 T)

theorem c_impl_Sin_bad {a b c d : Int} (h : SailX a b c d) : CallOK Try.prog n_impl_SailSines [pt a b, pt c d] [] (fun v m_ => v = t2 (.slice none 0 0) (ii (sqE a b c d)) ∧ m_ = []) := by
  rcases h.no with h1 | ⟨h1, h2⟩
  · rw [sqE_1 h1]; exact c_impl_SailSines_no1 h1
  · rw [sqE_3 h1]; exact c_impl_SailSines_no2 h1 (sailT_no h2)

theorem c_spec_Sin_bad {a b c d : Int} (h : SailX a b c d) : CallOK Try.prog n_spec_SailSines [pt a b, pt c d] [] (fun v m_ => v = t2 (.slice none 0 0) (ii (sqE a b c d)) ∧ m_ = []) := by
  rcases h.no with h1 | ⟨h1, h2⟩
  · rw [sqE_1 h1]; exact c_spec_SailSines_no1 h1
  · rw [sqE_3 h1]; exact c_spec_SailSines_no2 h1 (sailT_no h2)

theorem c_impl_Are_all (a b c d : Int) : CallOK Try.prog n_impl_AreaBelow [pt a b, pt c d] [] (fun v m_ => v = t2 (ii (arV a b c d)) (ii (arE a b c d)) ∧ m_ = []) := by
  unfold arV arE
  cases h : isAngF a b c d
  · exact c_impl_AreaBelow_no1 h
  · cases hr : sailR a b c d with
    | none => exact c_impl_AreaBelow_no2 (ang_ok h) (sailT_no hr)
    | some r =>
      have hG : SailG a b c d r.2 := ⟨ang_ok h, r.1, hr⟩
      obtain ⟨P, hp⟩ := hG.t 0
      have := c_impl_AreaBelow_ok (ang_ok h) hp
      rw [hG.len hp] at this
      exact this
theorem c_impl_An_ok {xs : List Int} {sp : List Value} {n c : Nat} {p q : Int} (h1 : Row (il xs) sp n c 1) (hn : n ≤ 1048576) (h : anO xs = some (p, q)) : CallOK Try.prog n_impl_AngleOfSequence [.slice (some ⟨0, 0, none⟩) n c] [(il xs ++ sp, none)] (fun v m_ => v = t2 (.slice (some ⟨1, 0, none⟩) 2 2) (ii 0) ∧ m_ = [(il xs ++ sp, none), (pl [(1, 0), (p, q)] ++ [], some t_impl_Point)]) := by
  obtain ⟨k1, k2, k3, k4⟩ := anO_some h
  have hl := row_il h1
  cases hb : xs.any bigP
  · exact c_impl_Ang_ok h1 hn (by omega) (by omega) k3 hb k4
  · rw [angF_big xs true 1 0 0 1 hb] at k4; cases k4
theorem c_impl_An_no {xs : List Int} {sp : List Value} {n c : Nat} (h1 : Row (il xs) sp n c 1) (hn : n ≤ 1048576) (h : anO xs = none) : CallOK Try.prog n_impl_AngleOfSequence [.slice (some ⟨0, 0, none⟩) n c] [(il xs ++ sp, none)] (fun v m_ => v = t2 (.slice none 0 0) (ii (anE xs)) ∧ m_ = [(il xs ++ sp, none)]) := by
  have hl := row_il h1
  cases hB : anB xs
  · have e : anE xs = 2 := by unfold anE; rw [hB]; rfl
    rw [e]
    have hn2 : ¬ (xs.length % 2 = 1 ∧ xs.length ≤ 60 ∧ xs.any lowP = false) := fun hh => by rw [(anB_iff xs).2 hh] at hB; cases hB
    by_cases ho : n % 2 = 1
    · by_cases h60 : n ≤ 60
      · cases hx : xs.any lowP
        · exact absurd ⟨by omega, by omega, hx⟩ hn2
        · exact c_impl_Ang_low h1 hn ho h60 hx
      · exact c_impl_Ang_len h1 hn ho h60
    · exact c_impl_Ang_odd h1 hn ho
  · have e : anE xs = 3 := by unfold anE; rw [hB]; rfl
    rw [e]
    obtain ⟨k1, k2, k3⟩ := (anB_iff xs).1 hB
    have ha : angF xs true 1 0 0 1 = none := by unfold anO at h; rw [hB] at h; exact h
    cases hb : xs.any bigP
    · exact c_impl_Ang_none h1 hn (by omega) (by omega) k3 hb ha
    · exact c_impl_Ang_big h1 hn (by omega) (by omega) k3 hb

theorem c_spec_Are_all (a b c d : Int) : CallOK Try.prog n_spec_AreaBelow [pt a b, pt c d] [] (fun v m_ => v = t2 (ii (arV a b c d)) (ii (arE a b c d)) ∧ m_ = []) := by
  unfold arV arE
  cases h : isAngF a b c d
  · exact c_spec_AreaBelow_no1 h
  · cases hr : sailR a b c d with
    | none => exact c_spec_AreaBelow_no2 (ang_ok h) (sailT_no hr)
    | some r =>
      have hG : SailG a b c d r.2 := ⟨ang_ok h, r.1, hr⟩
      obtain ⟨P, hp⟩ := hG.t 2
      have := c_spec_AreaBelow_ok (ang_ok h) hp
      rw [hG.len hp] at this
      exact this
theorem c_spec_An_ok {xs : List Int} {sp : List Value} {n c : Nat} {p q : Int} (h1 : Row (il xs) sp n c 1) (hn : n ≤ 1048576) (h : anO xs = some (p, q)) : CallOK Try.prog n_spec_AngleOfSequence [.slice (some ⟨0, 0, none⟩) n c] [(il xs ++ sp, none)] (fun v m_ => v = t2 (.slice (some ⟨1, 0, none⟩) 2 2) (ii 0) ∧ m_ = [(il xs ++ sp, none), (pl [(1, 0), (p, q)] ++ [], some t_impl_Point)]) := by
  obtain ⟨k1, k2, k3, k4⟩ := anO_some h
  have hl := row_il h1
  cases hb : xs.any bigP
  · exact c_spec_Ang_ok h1 hn (by omega) (by omega) k3 k4
  · rw [angF_big xs true 1 0 0 1 hb] at k4; cases k4
theorem c_spec_An_no {xs : List Int} {sp : List Value} {n c : Nat} (h1 : Row (il xs) sp n c 1) (hn : n ≤ 1048576) (h : anO xs = none) : CallOK Try.prog n_spec_AngleOfSequence [.slice (some ⟨0, 0, none⟩) n c] [(il xs ++ sp, none)] (fun v m_ => v = t2 (.slice none 0 0) (ii (anE xs)) ∧ m_ = [(il xs ++ sp, none)]) := by
  have hl := row_il h1
  cases hB : anB xs
  · have e : anE xs = 2 := by unfold anE; rw [hB]; rfl
    rw [e]
    have hn2 : ¬ (xs.length % 2 = 1 ∧ xs.length ≤ 60 ∧ xs.any lowP = false) := fun hh => by rw [(anB_iff xs).2 hh] at hB; cases hB
    by_cases ho : n % 2 = 1
    · by_cases h60 : n ≤ 60
      · cases hx : xs.any lowP
        · exact absurd ⟨by omega, by omega, hx⟩ hn2
        · exact c_spec_Ang_low h1 hn ho h60 hx
      · exact c_spec_Ang_len h1 hn ho h60
    · exact c_spec_Ang_odd h1 hn ho
  · have e : anE xs = 3 := by unfold anE; rw [hB]; rfl
    rw [e]
    obtain ⟨k1, k2, k3⟩ := (anB_iff xs).1 hB
    have ha : angF xs true 1 0 0 1 = none := by unfold anO at h; rw [hB] at h; exact h
    exact c_spec_Ang_none h1 hn (by omega) (by omega) k3 ha

theorem c_index_off {xs : List Int} {sp : List Value} {m e o : Nat} (hp : Plain (il xs ++ sp)) (ho : o + m ≤ xs.length) (hn : m ≤ 1048576) : CallOK Try.prog n_slices_IndexFunc_int64 [.slice (some ⟨0, o, none⟩) m e, fnv n_impl_AngleOfSequence_1] [(il xs ++ sp, none)] (fun v m_ => (∃ j, v = ii j) ∧ m_ = [(il xs ++ sp, none)]) := by
  refine callOK_ofF good fn_slices_IndexFunc_int64 ?_
  conv => whnf
  all_goals (repeat' first
    | (refine enter_forget [] (loop_rec (fun (s : Int) => match s with | i => [.slice (some ⟨0, o, none⟩) m e, fnv n_impl_AngleOfSequence_1, wild, wild, wild, wild, .slice (some ⟨0, o, none⟩) m e, ii (m : Int), ii i, wild, wild, wild, wild, wild, wild, wild, wild, wild, wild]) (fun (s : Int) => match s with | i => [(il xs ++ sp, none)]) (fun (s : Int) => match s with | i => ((m : Int) - i).toNat) (fun (s : Int) => match s with | i => 0 ≤ i ∧ i ≤ (m : Int)) (0) (by omega) ?_) (tmR_rfl rfl rfl) ⟨⟨⟨_, rfl, .plain rfl rfl hp⟩⟩, trivial⟩ rfl rfl; rintro fuel_ i hI IH; replace hI : 0 ≤ i ∧ i ≤ (m : Int) := hI; conv => whnf)
    | exact next_forget [] (IH (w64 (i + 1)) (idx_next hI (by assumption) (by omega)) (idx_mu hI (by assumption) (by omega))) (tmR_rfl rfl rfl) ⟨⟨⟨_, rfl, .plain rfl rfl hp⟩⟩, trivial⟩ rfl rfl
    | (refine br_in hI.1 (of_decide_eq_true (show decide (i < (m : Int)) = true by assumption)) ?_; conv => whnf)
    | (refine force_eq (take_il (xs := xs) (i := o + i.toNat) ?_ ?_) ?_; (focus (simp only [Nat.mul_one]; done)); (focus (have := hI.1; have := (of_decide_eq_true (show decide (i < (m : Int)) = true by assumption)); omega)); conv => whnf)
    | (exact out_forget [] ⟨⟨_, rfl⟩, rfl⟩ rfl (okB2_spec rfl) ⟨⟨⟨_, rfl, .plain rfl rfl hp⟩⟩, trivial⟩ rfl rfl)
    | (refine StoreK.mk rfl ?_; conv => whnf)
    | exact join_same
    | exact (by assumption : (_ : Bool) = (_ : Bool))
    | (refine br_true (by assumption) ?_; conv => whnf)
    | (refine br_false (by assumption) ?_; conv => whnf)
    | (refine br_not ?_; conv => whnf)
    | (refine br_code ?_; conv => whnf)
    | (with_reducible refine br_and ?_; conv => whnf)
    | (with_reducible refine br_or ?_; conv => whnf)
    | (refine br_eq2 ?_; conv => whnf)
    | (refine c_impl_AngleOfSequence_1.call ?_; conv => whnf)
    | (refine c_impl_AngleOfSequence_1.quiet ?_; conv => whnf)
    | (refine draw_auto (by decide +kernel) ?_; conv => whnf)
    | (refine draw_asg (by decide +kernel) ?_; conv => whnf)
    | (refine draw_st (by decide +kernel) ?_; conv => whnf)
    | (refine draw_call (by decide +kernel) ?_; conv => whnf)
    | (refine enter_same (loop_n 12 ?_); conv => whnf)
    | (refine next_same ?_; conv => whnf)
    | (refine mapK_row (by assumption) ?_; conv => whnf)
    | (refine mapK_plain (Plain.of rfl) ?_; conv => whnf)
    | (refine mapK_lit ?_; conv => whnf)
    | (refine br_split (fun _ => ?_) (fun _ => ?_) <;> conv => whnf)
    | exact (rfl : (_ : Value) = _)
    | (simp only [*]; exact (rfl : (_ : Value) = _))
    | (simp [*]; done))

theorem c_contains_off {xs : List Int} {sp : List Value} {m e o : Nat} (hp : Plain (il xs ++ sp)) (ho : o + m ≤ xs.length) (hn : m ≤ 1048576) : CallOK Try.prog n_slices_ContainsFunc_int64 [.slice (some ⟨0, o, none⟩) m e, fnv n_impl_AngleOfSequence_1] [(il xs ++ sp, none)] (fun v m_ => (∃ b, v = bb b) ∧ m_ = [(il xs ++ sp, none)]) := by
  refine callOK_ofF good fn_slices_ContainsFunc_int64 ?_
  conv => whnf
  all_goals (repeat' first
    | (refine CallOK.useR (c_index_off hp ho hn) [_] rfl rfl rfl ⟨⟨⟨_, rfl, .plain rfl (fun _ h_ => by first | exact h_ | cases h_) hp⟩⟩, trivial⟩ (fun v_ mem_ hR => ?_); obtain ⟨⟨j_, rfl⟩, rfl⟩ := hR; refine ⟨rfl, ?_⟩; conv => whnf)
    | (exact out_forget [] ⟨⟨_, rfl⟩, rfl⟩ rfl (okB2_spec rfl) ⟨⟨⟨_, rfl, .plain rfl rfl hp⟩⟩, trivial⟩ rfl rfl)
    | (refine StoreK.mk rfl ?_; conv => whnf)
    | exact join_same
    | exact (by assumption : (_ : Bool) = (_ : Bool))
    | (refine br_true (by assumption) ?_; conv => whnf)
    | (refine br_false (by assumption) ?_; conv => whnf)
    | (refine br_not ?_; conv => whnf)
    | (refine br_code ?_; conv => whnf)
    | (with_reducible refine br_and ?_; conv => whnf)
    | (with_reducible refine br_or ?_; conv => whnf)
    | (refine br_eq2 ?_; conv => whnf)
    | (refine draw_auto (by decide +kernel) ?_; conv => whnf)
    | (refine draw_asg (by decide +kernel) ?_; conv => whnf)
    | (refine draw_st (by decide +kernel) ?_; conv => whnf)
    | (refine draw_call (by decide +kernel) ?_; conv => whnf)
    | (refine enter_same (loop_n 12 ?_); conv => whnf)
    | (refine next_same ?_; conv => whnf)
    | (refine mapK_row (by assumption) ?_; conv => whnf)
    | (refine mapK_plain (Plain.of rfl) ?_; conv => whnf)
    | (refine mapK_lit ?_; conv => whnf)
    | (refine br_split (fun _ => ?_) (fun _ => ?_) <;> conv => whnf)
    | exact (rfl : (_ : Value) = _)
    | (simp only [*]; exact (rfl : (_ : Value) = _))
    | (simp [*]; done))

theorem c_impl_An_even {xs : List Int} {sp : List Value} {m e o : Nat} (hp : Plain (il xs ++ sp)) (ho : o + m ≤ xs.length) (hn : m ≤ 1048576) (he : ¬ m % 2 = 1) : CallOK Try.prog n_impl_AngleOfSequence [.slice (some ⟨0, o, none⟩) m e] [(il xs ++ sp, none)] (fun v m_ => v = t2 (.slice none 0 0) (ii 2) ∧ m_ = [(il xs ++ sp, none)]) := by
  refine callOK_ofF good fn_impl_AngleOfSequence ?_
  conv => whnf
  all_goals (repeat' first
    | (refine CallOK.useR (c_contains_off hp ho hn) [_] rfl rfl rfl ⟨⟨⟨_, rfl, .plain rfl (fun _ h_ => by first | exact h_ | cases h_) hp⟩⟩, trivial⟩ (fun v_ mem_ hR => ?_); obtain ⟨⟨b_, rfl⟩, rfl⟩ := hR; refine ⟨rfl, ?_⟩; conv => whnf)
    | (refine br_false (b := decide ((m : Int).tmod 2 = 1)) (decide_eq_false (fun hh => he (tmod2'.1 hh))) ?_; conv => whnf)
    | (refine br_true (b := decide ((m : Int).tmod 2 = 0)) (decide_eq_true (tmod2.2 he)) ?_; conv => whnf)
    | (exact out_forget [] ⟨rfl, rfl⟩ rfl (okB2_spec rfl) ⟨⟨⟨_, rfl, .plain rfl rfl hp⟩⟩, trivial⟩ rfl rfl)
    | (refine StoreK.mk rfl ?_; conv => whnf)
    | exact join_same
    | exact (by assumption : (_ : Bool) = (_ : Bool))
    | (refine br_true (by assumption) ?_; conv => whnf)
    | (refine br_false (by assumption) ?_; conv => whnf)
    | (refine br_not ?_; conv => whnf)
    | (refine br_code ?_; conv => whnf)
    | (with_reducible refine br_and ?_; conv => whnf)
    | (with_reducible refine br_or ?_; conv => whnf)
    | (refine br_eq2 ?_; conv => whnf)
    | (refine draw_auto (by decide +kernel) ?_; conv => whnf)
    | (refine draw_asg (by decide +kernel) ?_; conv => whnf)
    | (refine draw_st (by decide +kernel) ?_; conv => whnf)
    | (refine draw_call (by decide +kernel) ?_; conv => whnf)
    | (refine enter_same (loop_n 12 ?_); conv => whnf)
    | (refine next_same ?_; conv => whnf)
    | (refine mapK_row (by assumption) ?_; conv => whnf)
    | (refine mapK_plain (Plain.of rfl) ?_; conv => whnf)
    | (refine mapK_lit ?_; conv => whnf)
    | (refine br_split (fun _ => ?_) (fun _ => ?_) <;> conv => whnf)
    | exact (rfl : (_ : Value) = _)
    | (simp only [*]; exact (rfl : (_ : Value) = _))
    | (simp [*]; done))

theorem c_spec_An_even {xs : List Int} {sp : List Value} {m e o : Nat} (hp : Plain (il xs ++ sp)) (ho : o + m ≤ xs.length) (hn : m ≤ 1048576) (he : ¬ m % 2 = 1) : CallOK Try.prog n_spec_AngleOfSequence [.slice (some ⟨0, o, none⟩) m e] [(il xs ++ sp, none)] (fun v m_ => v = t2 (.slice none 0 0) (ii 2) ∧ m_ = [(il xs ++ sp, none)]) := by
  refine callOK_ofF good fn_spec_AngleOfSequence ?_
  conv => whnf
  all_goals (repeat' first
    | (refine CallOK.useR (c_contains_off hp ho hn) [_] rfl rfl rfl ⟨⟨⟨_, rfl, .plain rfl (fun _ h_ => by first | exact h_ | cases h_) hp⟩⟩, trivial⟩ (fun v_ mem_ hR => ?_); obtain ⟨⟨b_, rfl⟩, rfl⟩ := hR; refine ⟨rfl, ?_⟩; conv => whnf)
    | (refine br_false (b := decide ((m : Int).tmod 2 = 1)) (decide_eq_false (fun hh => he (tmod2'.1 hh))) ?_; conv => whnf)
    | (refine br_true (b := decide ((m : Int).tmod 2 = 0)) (decide_eq_true (tmod2.2 he)) ?_; conv => whnf)
    | (exact out_forget [] ⟨rfl, rfl⟩ rfl (okB2_spec rfl) ⟨⟨⟨_, rfl, .plain rfl rfl hp⟩⟩, trivial⟩ rfl rfl)
    | (refine StoreK.mk rfl ?_; conv => whnf)
    | exact join_same
    | exact (by assumption : (_ : Bool) = (_ : Bool))
    | (refine br_true (by assumption) ?_; conv => whnf)
    | (refine br_false (by assumption) ?_; conv => whnf)
    | (refine br_not ?_; conv => whnf)
    | (refine br_code ?_; conv => whnf)
    | (with_reducible refine br_and ?_; conv => whnf)
    | (with_reducible refine br_or ?_; conv => whnf)
    | (refine br_eq2 ?_; conv => whnf)
    | (refine draw_auto (by decide +kernel) ?_; conv => whnf)
    | (refine draw_asg (by decide +kernel) ?_; conv => whnf)
    | (refine draw_st (by decide +kernel) ?_; conv => whnf)
    | (refine draw_call (by decide +kernel) ?_; conv => whnf)
    | (refine enter_same (loop_n 12 ?_); conv => whnf)
    | (refine next_same ?_; conv => whnf)
    | (refine mapK_row (by assumption) ?_; conv => whnf)
    | (refine mapK_plain (Plain.of rfl) ?_; conv => whnf)
    | (refine mapK_lit ?_; conv => whnf)
    | (refine br_split (fun _ => ?_) (fun _ => ?_) <;> conv => whnf)
    | exact (rfl : (_ : Value) = _)
    | (simp only [*]; exact (rfl : (_ : Value) = _))
    | (simp [*]; done))

theorem seq_em (a b c d : Int) : (∃ T p q, SailG a b c d T ∧ anO (seqR 0 T) = some (p, q)) ∨ (∃ T, SailG a b c d T ∧ anO (seqR 0 T) = none) ∨ SailX a b c d := by
  rcases sail_em a b c d with ⟨T, h⟩ | h
  · rcases an_em (seqR 0 T) with ⟨p, q, k⟩ | k
    · exact .inl ⟨T, p, q, h, k⟩
    · exact .inr (.inl ⟨T, h, k⟩)
  · exact .inr (.inr h)
theorem lst_em {A B : Prop} (h : A ∨ B) (ys : List Int) : (A ∧ ∃ p q T, anO ys = some (p, q) ∧ SailG 1 0 p q T) ∨ (A ∧ ∃ p q, anO ys = some (p, q) ∧ SailX 1 0 p q) ∨ (A ∧ anO ys = none) ∨ B := by
  rcases h with h | h
  · rcases an_em ys with ⟨p, q, k⟩ | k
    · rcases sail_em 1 0 p q with ⟨T, g⟩ | g
      · exact .inl ⟨h, p, q, T, k, g⟩
      · exact .inr (.inl ⟨h, p, q, k, g⟩)
    · exact .inr (.inr (.inl ⟨h, k⟩))
  · exact .inr (.inr (.inr h))
theorem c_impl_Seq_back {ys T : List Int} {p q : Int} (hA : anO ys = some (p, q)) (h : SailG 1 0 p q T) : CallOK Try.prog n_impl_SequenceOf [pt 1 0, pt p q] [] (fun v m_ => ∃ n c sp, Row (il ys) sp n c 1 ∧ n ≤ 1000001 ∧ v = t2 (.slice (some ⟨0, 0, none⟩) n c) (ii 0) ∧ m_ = [(il ys ++ sp, some 2)]) := by
  have := c_impl_Seq_good h
  rw [h.back hA] at this
  exact this
theorem off_le {q e : Nat} (h : q % 2 = 1) : offK e (Int.toNat 1) 0 1 + subK q (Int.toNat 1) ≤ q ∧ ¬ subK q (Int.toNat 1) % 2 = 1 := by
  have h1 : subK q (Int.toNat 1) = q - 1 := subK_eq q 1
  have h2 : offK e (Int.toNat 1) 0 1 ≤ 1 := by
    show (match Nat.beq e (0 + 1) with | true => 0 | false => 0 + (0 + 1) * 1) ≤ 1
    cases Nat.beq e (0 + 1) with
    | true => exact Nat.zero_le _
    | false => exact Nat.le_refl _
  omega

end Go.Proofs.Ytjakdmfodnpkkaa
