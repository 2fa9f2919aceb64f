/-
  Contracts of functions of the program (printed by a program of this work; Lean checks each).
  Conditions: as each contract states.
-/
import Derived.Test.YtnjepaboecijcaaDoorK100
import Derived.Test.YtnjepaboecijcaaDoorK3
import Derived.Test.YtnjepaboecijcaaDoorList
namespace Go.Proofs.YtnjepaboecijcaaDoor
open Go.Ev Go.RowKit
set_option maxRecDepth 100000
set_option linter.unusedVariables false
set_option linter.unusedSimpArgs false

attribute [local irreducible] isPtF plusF okPath ByteArray.extract

theorem c_spec_FractionOfPath_long {u : ByteArray} (hl : ¬ (u.size : Int) ≤ 60) : Pure Tryd.prog n_spec_FractionOfPath [.string u] (t2 (pt 0 0) (ii 2)) := by
  refine pure_of good fn_spec_FractionOfPath rfl rfl ?_
  conv => whnf
  all_goals (repeat' first
    | (refine br_true (b := decide ((u.size : Int) > 60)) (decide_eq_true (by omega)) ?_; conv => whnf)
    | (refine StoreK.mk rfl ?_; conv => whnf)
    | exact join_same
    | exact (by assumption : (_ : Bool) = (_ : Bool))
    | (refine br_true (by assumption) ?_; conv => whnf)
    | (refine br_false (by assumption) ?_; conv => whnf)
    | (refine br_not ?_; conv => whnf)
    | (refine br_code ?_; conv => whnf)
    | (with_reducible refine br_and ?_; conv => whnf)
    | (with_reducible refine br_or ?_; conv => whnf)
    | (refine br_eq2 ?_; conv => whnf)
    | (refine c_spec_l01Plus.call ?_; conv => whnf)
    | (refine c_spec_l01Plus.quiet ?_; conv => whnf)
    | (refine c_spec_l01Is.call ?_; conv => whnf)
    | (refine c_spec_l01Is.quiet ?_; conv => whnf)
    | (refine c_spec_l01Told.call ?_; conv => whnf)
    | (refine c_spec_l01Told.quiet ?_; conv => whnf)
    | (refine draw_auto (by decide +kernel) ?_; conv => whnf)
    | (refine draw_asg (by decide +kernel) ?_; conv => whnf)
    | (refine draw_st (by decide +kernel) ?_; conv => whnf)
    | (refine draw_call (by decide +kernel) ?_; conv => whnf)
    | (refine enter_same (loop_n 12 ?_); conv => whnf)
    | (refine next_same ?_; conv => whnf)
    | (refine mapK_row (by assumption) ?_; conv => whnf)
    | (refine mapK_plain (Plain.of rfl) ?_; conv => whnf)
    | (refine mapK_lit ?_; conv => whnf)
    | (refine br_split (fun _ => ?_) (fun _ => ?_) <;> conv => whnf)
    | exact (rfl : (_ : Value) = _)
    | (simp only [*]; exact (rfl : (_ : Value) = _))
    | (simp [*]; done))

theorem byte_no {u : ByteArray} {i : Int} (h : ∀ x ∈ u.data.toList, x = 76 ∨ x = 82) (h0 : 0 ≤ i) (h1 : i < (u.size : Int)) (e1 : decide (((u.data.toList.getD i.toNat 0).toNat : Int) = 76) = false) (e2 : decide (((u.data.toList.getD i.toNat 0).toNat : Int) = 82) = false) : False := by
  have hl : i.toNat < u.data.toList.length := by simp; omega
  have e1' := of_decide_eq_false e1
  have e2' := of_decide_eq_false e2
  rcases h _ (getD_mem (d := 0) hl) with e | e
  · rw [e] at e1'; exact e1' rfl
  · rw [e] at e2'; exact e2' rfl
theorem byte_l {x : UInt8} (e : decide ((x.toNat : Int) = 76) = true) : x = 76 := by
  have := of_decide_eq_true e
  exact UInt8.toNat_inj.1 (by show x.toNat = 76; omega)
theorem byte_r {x : UInt8} (e : decide ((x.toNat : Int) = 76) = false) : x ≠ 76 := fun h => by
  have := of_decide_eq_false e
  rw [h] at this
  exact this rfl
structure BI (u : ByteArray) (i : Int) : Prop where
  i0 : 0 ≤ i
  i1 : i ≤ (u.size : Int)
  ok : ∀ j : Nat, (j : Int) < i → u.data.toList.getD j 0 = 76 ∨ u.data.toList.getD j 0 = 82
theorem BI.start {u : ByteArray} : BI u 0 := ⟨Int.le_refl _, Int.natCast_nonneg _, fun j hj => by omega⟩
theorem BI.next {u : ByteArray} {i : Int} (h : BI u i) (hu : u.size ≤ 1000) (hi : decide (i < (u.size : Int)) = true) (hb : u.data.toList.getD i.toNat 0 = 76 ∨ u.data.toList.getD i.toNat 0 = 82) : BI u (w64 (i + 1)) ∧ ((u.size : Int) - w64 (i + 1)).toNat < ((u.size : Int) - i).toNat := by
  have h0 := h.i0
  have h1 := of_decide_eq_true hi
  rw [w64_in (by omega) (by omega)]
  refine ⟨⟨by omega, by omega, fun j hj => ?_⟩, by omega⟩
  by_cases hji : (j : Int) < i
  · exact h.ok j hji
  · rw [show j = i.toNat by omega]; exact hb
theorem BI.fin {u : ByteArray} {i : Int} (h : BI u i) (hu : u.size ≤ 60) (hi : decide (i < (u.size : Int)) = false) : okPath u = true := by
  have := of_decide_eq_false hi
  rw [okPath_iff, ← size_len]
  refine ⟨hu, fun x hx => ?_⟩
  obtain ⟨j, hj, rfl⟩ := List.getElem_of_mem hx
  have hj2 : j < u.size := by rw [size_len]; exact hj
  have := h.ok j (by omega)
  simpa [List.getD, List.getElem?_eq_getElem hj] using this
theorem byte_82 {x : UInt8} (e : decide ((x.toNat : Int) = 82) = true) : x = 82 := by
  have := of_decide_eq_true e
  exact UInt8.toNat_inj.1 (by show x.toNat = 82; omega)

set_option maxHeartbeats 1000000 in
theorem c_spec_FractionOfPath_bad {u : ByteArray} (hl : (u.size : Int) ≤ 60) (ho : okPath u = false) : Pure Tryd.prog n_spec_FractionOfPath [.string u] (t2 (pt 0 0) (ii 2)) := by
  refine pure_of good fn_spec_FractionOfPath rfl rfl ?_
  conv => whnf
  all_goals (repeat' first
    | (refine br_false (b := decide ((u.size : Int) > 60)) (decide_eq_false (by omega)) ?_; conv => whnf)
    | (refine enter_forget [0] (loop_rec (fun (s : Int) => match s with | i => [.string u, wild, .pointer (some ⟨0, 0, none⟩), ii 0, ii i, wild, wild, wild, wild, wild, wild, wild, wild, wild, wild, wild, wild, wild, wild, wild, wild, wild, wild, wild, wild, wild, wild, wild, wild, wild, wild, wild, wild, wild, wild, wild, wild, wild, wild, wild, wild, wild, wild, wild, wild, wild, wild, wild, wild, wild, wild, wild, wild, wild, wild, wild, wild, wild, wild, wild, wild, wild]) (fun (s : Int) => match s with | i => [(ti23.zero, some 23)]) (fun (s : Int) => match s with | i => ((u.size : Int) - i).toNat) (fun (s : Int) => match s with | i => BI u i) (0) BI.start ?_) (tmR_rfl rfl rfl) ⟨⟨⟨_, rfl, .plain rfl rfl (by first | exact Plain.of rfl | exact Row.all (by assumption))⟩⟩, trivial⟩ rfl rfl; rintro fuel_ i hI IH; replace hI : BI u i := hI; conv => whnf)
    | exact next_forget [0] (IH (w64 (i + 1)) (by exact (hI.next (by omega) (show decide (i < (u.size : Int)) = true by assumption) (.inl (byte_l (by assumption)))).1) (by exact (hI.next (by omega) (show decide (i < (u.size : Int)) = true by assumption) (.inl (byte_l (by assumption)))).2)) (tmR_rfl rfl rfl) ⟨⟨⟨_, rfl, .plain rfl rfl (by first | exact Plain.of rfl | exact Row.all (by assumption))⟩⟩, trivial⟩ rfl rfl
    | exact next_forget [0] (IH (w64 (i + 1)) (by exact (hI.next (by omega) (show decide (i < (u.size : Int)) = true by assumption) (.inr (byte_82 (by assumption)))).1) (by exact (hI.next (by omega) (show decide (i < (u.size : Int)) = true by assumption) (.inr (byte_82 (by assumption)))).2)) (tmR_rfl rfl rfl) ⟨⟨⟨_, rfl, .plain rfl rfl (by first | exact Plain.of rfl | exact Row.all (by assumption))⟩⟩, trivial⟩ rfl rfl
    | (refine br_in (n := u.size) ?_ ?_ ?_; (focus (have := hI.i0; omega)); (focus (have := (of_decide_eq_true (show decide (i < (u.size : Int)) = true by assumption)); omega)); conv => whnf)
    | (exfalso; have e_ := hI.fin (by omega) (by assumption); rw [ho] at e_; cases e_; done)
    | (refine StoreK.mk rfl ?_; conv => whnf)
    | exact join_same
    | exact (by assumption : (_ : Bool) = (_ : Bool))
    | (refine br_true (by assumption) ?_; conv => whnf)
    | (refine br_false (by assumption) ?_; conv => whnf)
    | (refine br_not ?_; conv => whnf)
    | (refine br_code ?_; conv => whnf)
    | (with_reducible refine br_and ?_; conv => whnf)
    | (with_reducible refine br_or ?_; conv => whnf)
    | (refine br_eq2 ?_; conv => whnf)
    | (refine c_spec_l01Plus.call ?_; conv => whnf)
    | (refine c_spec_l01Plus.quiet ?_; conv => whnf)
    | (refine c_spec_l01Is.call ?_; conv => whnf)
    | (refine c_spec_l01Is.quiet ?_; conv => whnf)
    | (refine c_spec_l01Told.call ?_; conv => whnf)
    | (refine c_spec_l01Told.quiet ?_; conv => whnf)
    | (refine draw_auto (by decide +kernel) ?_; conv => whnf)
    | (refine draw_asg (by decide +kernel) ?_; conv => whnf)
    | (refine draw_st (by decide +kernel) ?_; conv => whnf)
    | (refine draw_call (by decide +kernel) ?_; conv => whnf)
    | (refine enter_same (loop_n 12 ?_); conv => whnf)
    | (refine next_same ?_; conv => whnf)
    | (refine mapK_row (by assumption) ?_; conv => whnf)
    | (refine mapK_plain (Plain.of rfl) ?_; conv => whnf)
    | (refine mapK_lit ?_; conv => whnf)
    | (refine br_split (fun _ => ?_) (fun _ => ?_) <;> conv => whnf)
    | exact (rfl : (_ : Value) = _)
    | (simp only [*]; exact (rfl : (_ : Value) = _))
    | (simp [*]; done))

set_option maxHeartbeats 2000000 in
theorem c_spec_FractionOfPath_ok {u : ByteArray}  (ho : okPath u = true) : Pure Tryd.prog n_spec_FractionOfPath [.string u] (t2 (pt (selF (isPtF (pX u.data.toList) (pY u.data.toList)) (pX u.data.toList) 0) (selF (isPtF (pX u.data.toList) (pY u.data.toList)) (pY u.data.toList) 0)) (ii (selF (isPtF (pX u.data.toList) (pY u.data.toList)) 0 3))) := by
  have hp_ := (okPath_iff u).1 ho; have hl_ := hp_.1; have hz_ : (u.size : Int) = (u.data.toList.length : Int) := (by rw [size_len]); refine pure_of good fn_spec_FractionOfPath rfl rfl ?_
  conv => whnf
  all_goals (repeat' first
    | (refine br_false (b := decide ((u.size : Int) > 60)) (decide_eq_false (by omega)) ?_; conv => whnf)
    | (refine enter_forget [0, 1, 2] (loop_rec (fun (s : Int × Int × Int × Int × Int) => match s with | (j, l0, l1, r0, r1) => [.string u, wild, .pointer (some ⟨0, 0, none⟩), ii 0, wild, .pointer (some ⟨1, 0, none⟩), .pointer (some ⟨2, 0, none⟩), ii j, wild, wild, wild, wild, wild, wild, wild, wild, wild, wild, wild, wild, wild, wild, wild, wild, wild, wild, wild, wild, wild, wild, wild, wild, wild, wild, wild, wild, wild, wild, wild, wild, wild, wild, wild, wild, wild, wild, wild, wild, wild, wild, wild, wild, wild, wild, wild, wild, wild, wild, wild, wild, wild, wild]) (fun (s : Int × Int × Int × Int × Int) => match s with | (j, l0, l1, r0, r1) => [(ti23.zero, some 23), ([ii l0, ii l1], some t_impl_Point), ([ii r0, ii r1], some t_impl_Point)]) (fun (s : Int × Int × Int × Int × Int) => match s with | (j, l0, l1, r0, r1) => ((u.data.toList.length : Int) - j).toNat) (fun (s : Int × Int × Int × Int × Int) => match s with | (j, l0, l1, r0, r1) => PI u.data.toList j l0 l1 r0 r1) (0, 0, 1, 1, 0) PI.start ?_) (tmR_rfl rfl rfl) ⟨⟨⟨_, rfl, .plain rfl rfl (by first | exact Plain.of rfl | exact Row.all (by assumption))⟩⟩, ⟨⟨_, rfl, .plain rfl rfl (by first | exact Plain.of rfl | exact Row.all (by assumption))⟩⟩, ⟨⟨_, rfl, .plain rfl rfl (by first | exact Plain.of rfl | exact Row.all (by assumption))⟩⟩, trivial⟩ rfl rfl; rintro fuel_2 ⟨j, l0, l1, r0, r1⟩ hI2 IH2; replace hI2 : PI u.data.toList j l0 l1 r0 r1 := hI2; conv => whnf)
    | exact next_forget [0, 1, 2] (IH2 (w64 (j + 1), l0, l1, plusF l0 1 r0, plusF l1 1 r1) (by exact hI2.left hl_ (hz_ ▸ (of_decide_eq_true (show decide (j < (u.size : Int)) = true by assumption))) (byte_l (by assumption))) (by exact hI2.mu hl_ (hz_ ▸ (of_decide_eq_true (show decide (j < (u.size : Int)) = true by assumption))))) (tmR_rfl rfl rfl) ⟨⟨⟨_, rfl, .plain rfl rfl (by first | exact Plain.of rfl | exact Row.all (by assumption))⟩⟩, ⟨⟨_, rfl, .plain rfl rfl (by first | exact Plain.of rfl | exact Row.all (by assumption))⟩⟩, ⟨⟨_, rfl, .plain rfl rfl (by first | exact Plain.of rfl | exact Row.all (by assumption))⟩⟩, trivial⟩ rfl rfl
    | exact next_forget [0, 1, 2] (IH2 (w64 (j + 1), plusF l0 1 r0, plusF l1 1 r1, r0, r1) (by exact hI2.right hl_ (hz_ ▸ (of_decide_eq_true (show decide (j < (u.size : Int)) = true by assumption))) (byte_r (by assumption))) (by exact hI2.mu hl_ (hz_ ▸ (of_decide_eq_true (show decide (j < (u.size : Int)) = true by assumption))))) (tmR_rfl rfl rfl) ⟨⟨⟨_, rfl, .plain rfl rfl (by first | exact Plain.of rfl | exact Row.all (by assumption))⟩⟩, ⟨⟨_, rfl, .plain rfl rfl (by first | exact Plain.of rfl | exact Row.all (by assumption))⟩⟩, ⟨⟨_, rfl, .plain rfl rfl (by first | exact Plain.of rfl | exact Row.all (by assumption))⟩⟩, trivial⟩ rfl rfl
    | (refine enter_forget [0] (loop_rec (fun (s : Int) => match s with | i => [.string u, wild, .pointer (some ⟨0, 0, none⟩), ii 0, ii i, wild, wild, wild, wild, wild, wild, wild, wild, wild, wild, wild, wild, wild, wild, wild, wild, wild, wild, wild, wild, wild, wild, wild, wild, wild, wild, wild, wild, wild, wild, wild, wild, wild, wild, wild, wild, wild, wild, wild, wild, wild, wild, wild, wild, wild, wild, wild, wild, wild, wild, wild, wild, wild, wild, wild, wild, wild]) (fun (s : Int) => match s with | i => [(ti23.zero, some 23)]) (fun (s : Int) => match s with | i => ((u.size : Int) - i).toNat) (fun (s : Int) => match s with | i => BI u i) (0) BI.start ?_) (tmR_rfl rfl rfl) ⟨⟨⟨_, rfl, .plain rfl rfl (by first | exact Plain.of rfl | exact Row.all (by assumption))⟩⟩, trivial⟩ rfl rfl; rintro fuel_ i hI IH; replace hI : BI u i := hI; conv => whnf)
    | exact next_forget [0] (IH (w64 (i + 1)) (by exact (hI.next (by omega) (show decide (i < (u.size : Int)) = true by assumption) (.inl (byte_l (by assumption)))).1) (by exact (hI.next (by omega) (show decide (i < (u.size : Int)) = true by assumption) (.inl (byte_l (by assumption)))).2)) (tmR_rfl rfl rfl) ⟨⟨⟨_, rfl, .plain rfl rfl (by first | exact Plain.of rfl | exact Row.all (by assumption))⟩⟩, trivial⟩ rfl rfl
    | exact next_forget [0] (IH (w64 (i + 1)) (by exact (hI.next (by omega) (show decide (i < (u.size : Int)) = true by assumption) (.inr (byte_82 (by assumption)))).1) (by exact (hI.next (by omega) (show decide (i < (u.size : Int)) = true by assumption) (.inr (byte_82 (by assumption)))).2)) (tmR_rfl rfl rfl) ⟨⟨⟨_, rfl, .plain rfl rfl (by first | exact Plain.of rfl | exact Row.all (by assumption))⟩⟩, trivial⟩ rfl rfl
    | (refine br_in (n := u.size) ?_ ?_ ?_; (focus (have := hI2.i0; omega)); (focus (have := (of_decide_eq_true (show decide (j < (u.size : Int)) = true by assumption)); omega)); conv => whnf)
    | (refine br_in (n := u.size) ?_ ?_ ?_; (focus (have := hI.i0; omega)); (focus (have := (of_decide_eq_true (show decide (i < (u.size : Int)) = true by assumption)); omega)); conv => whnf)
    | (exact (byte_no hp_.2 hI.i0 (of_decide_eq_true (show decide (i < (u.size : Int)) = true by assumption)) (by assumption) (by assumption)).elim)
    | (rw [(hI2.fin hl_ (hz_ ▸ (of_decide_eq_false (show decide (j < (u.size : Int)) = false by assumption)))).1, (hI2.fin hl_ (hz_ ▸ (of_decide_eq_false (show decide (j < (u.size : Int)) = false by assumption)))).2]; refine c_spec_l01Told.call ?_; conv => whnf)
    | (have e_ := hI2.out hl_ (by assumption); rw [e_]; exact rfl)
    | (refine StoreK.mk rfl ?_; conv => whnf)
    | exact join_same
    | exact (by assumption : (_ : Bool) = (_ : Bool))
    | (refine br_true (by assumption) ?_; conv => whnf)
    | (refine br_false (by assumption) ?_; conv => whnf)
    | (refine br_not ?_; conv => whnf)
    | (refine br_code ?_; conv => whnf)
    | (with_reducible refine br_and ?_; conv => whnf)
    | (with_reducible refine br_or ?_; conv => whnf)
    | (refine br_eq2 ?_; conv => whnf)
    | (refine c_spec_l01Plus.call ?_; conv => whnf)
    | (refine c_spec_l01Plus.quiet ?_; conv => whnf)
    | (refine c_spec_l01Is.call ?_; conv => whnf)
    | (refine c_spec_l01Is.quiet ?_; conv => whnf)
    | (refine c_spec_l01Told.call ?_; conv => whnf)
    | (refine c_spec_l01Told.quiet ?_; conv => whnf)
    | (refine draw_auto (by decide +kernel) ?_; conv => whnf)
    | (refine draw_asg (by decide +kernel) ?_; conv => whnf)
    | (refine draw_st (by decide +kernel) ?_; conv => whnf)
    | (refine draw_call (by decide +kernel) ?_; conv => whnf)
    | (refine enter_same (loop_n 12 ?_); conv => whnf)
    | (refine next_same ?_; conv => whnf)
    | (refine mapK_row (by assumption) ?_; conv => whnf)
    | (refine mapK_plain (Plain.of rfl) ?_; conv => whnf)
    | (refine mapK_lit ?_; conv => whnf)
    | (refine br_split (fun _ => ?_) (fun _ => ?_) <;> conv => whnf)
    | exact (rfl : (_ : Value) = _)
    | (simp only [*]; exact (rfl : (_ : Value) = _))
    | (simp [*]; done))

end Go.Proofs.YtnjepaboecijcaaDoor
