/-
  Contracts of functions of the program (printed by a program of this work; Lean checks each).
  Conditions: as each contract states.
-/
import Derived.Test.YtnjepaboecijcaaDoorK100
import Derived.Test.YtnjepaboecijcaaDoorK3
import Derived.Test.YtnjepaboecijcaaDoorList
namespace Go.Proofs.YtnjepaboecijcaaDoor
open Go.Ev Go.RowKit
set_option maxRecDepth 100000
set_option linter.unusedVariables false
set_option linter.unusedSimpArgs false

attribute [local irreducible] isPtF plusF okPath ByteArray.extract

theorem ch_at {u : ByteArray} {i : Int} (h0 : 0 ≤ i) (h1 : i < (u.size : Int)) (h2 : u.size ≤ 1000) : (u.extract i.toNat (w64 (i + 1)).toNat).data.toList = [u.data.toList.getD i.toNat 0] := by
  rw [w64_in (by omega) (by omega), show (i + 1).toNat = i.toNat + 1 by omega, ByteArray.data_extract, Array.toList_extract]
  have hl : i.toNat < u.data.toList.length := by simp; omega
  rw [List.extract_eq_take_drop, Nat.add_sub_cancel_left, List.drop_eq_getElem_cons hl]
  have hl2 : i.toNat < u.data.size := by simpa using hl
  simp [List.getD, Array.getElem?_eq_getElem hl2]
theorem chL {u : ByteArray} {i : Int} (h0 : 0 ≤ i) (h1 : i < (u.size : Int)) (h2 : u.size ≤ 1000) (h : ((u.extract i.toNat (w64 (i + 1)).toNat).data.toList == (⟨#[76]⟩ : ByteArray).data.toList) = true) : u.data.toList.getD i.toNat 0 = 76 := by
  rw [ch_at h0 h1 h2] at h
  simpa using h
theorem chR {u : ByteArray} {i : Int} (h0 : 0 ≤ i) (h1 : i < (u.size : Int)) (h2 : u.size ≤ 1000) (h : ((u.extract i.toNat (w64 (i + 1)).toNat).data.toList == (⟨#[76]⟩ : ByteArray).data.toList) = false) : u.data.toList.getD i.toNat 0 ≠ 76 := fun e => by
  rw [ch_at h0 h1 h2, e] at h
  cases h

theorem c_impl_FractionOfPath_no {u : ByteArray} (hs : u.size ≤ 9223372036854775807) (ho : okPath u = false) : Pure Tryd.prog n_impl_FractionOfPath [.string u] (t2 (pt 0 0) (ii 2)) := by
  refine pure_of good fn_impl_FractionOfPath rfl rfl ?_
  conv => whnf
  all_goals (repeat' first
    | exact hs
    | (refine StoreK.mk rfl ?_; conv => whnf)
    | exact join_same
    | exact (by assumption : (_ : Bool) = (_ : Bool))
    | (refine br_true (by assumption) ?_; conv => whnf)
    | (refine br_false (by assumption) ?_; conv => whnf)
    | (refine br_not ?_; conv => whnf)
    | (refine br_code ?_; conv => whnf)
    | (with_reducible refine br_and ?_; conv => whnf)
    | (with_reducible refine br_or ?_; conv => whnf)
    | (refine br_eq2 ?_; conv => whnf)
    | (refine (c_impl_isPath ?_).call ?_ <;> conv => whnf)
    | (refine (c_impl_isPath ?_).quiet ?_ <;> conv => whnf)
    | (refine c_impl_Point_plus.call ?_; conv => whnf)
    | (refine c_impl_Point_plus.quiet ?_; conv => whnf)
    | (refine c_impl_Point_told.call ?_; conv => whnf)
    | (refine c_impl_Point_told.quiet ?_; conv => whnf)
    | (refine draw_auto (by decide +kernel) ?_; conv => whnf)
    | (refine draw_asg (by decide +kernel) ?_; conv => whnf)
    | (refine draw_st (by decide +kernel) ?_; conv => whnf)
    | (refine draw_call (by decide +kernel) ?_; conv => whnf)
    | (refine enter_same (loop_n 12 ?_); conv => whnf)
    | (refine next_same ?_; conv => whnf)
    | (refine mapK_row (by assumption) ?_; conv => whnf)
    | (refine mapK_plain (Plain.of rfl) ?_; conv => whnf)
    | (refine mapK_lit ?_; conv => whnf)
    | (refine br_split (fun _ => ?_) (fun _ => ?_) <;> conv => whnf)
    | exact (rfl : (_ : Value) = _)
    | (simp only [*]; exact (rfl : (_ : Value) = _))
    | (simp [*]; done))

set_option maxHeartbeats 1000000 in
theorem c_impl_FractionOfPath_ok {u : ByteArray} (hs : u.size ≤ 9223372036854775807) (ho : okPath u = true) : Pure Tryd.prog n_impl_FractionOfPath [.string u] (t2 (pt (selF (isPtF (pX u.data.toList) (pY u.data.toList)) (pX u.data.toList) 0) (selF (isPtF (pX u.data.toList) (pY u.data.toList)) (pY u.data.toList) 0)) (ii (selF (isPtF (pX u.data.toList) (pY u.data.toList)) 0 3))) := by
  have hp_ := (okPath_iff u).1 ho; have hl_ := hp_.1; have hz_ : (u.size : Int) = (u.data.toList.length : Int) := (by rw [size_len]); refine pure_of good fn_impl_FractionOfPath rfl rfl ?_
  conv => whnf
  all_goals (repeat' first
    | (refine enter_forget [0, 1, 2] (loop_rec (fun (s : Int × Int × Int × Int × Int) => match s with | (i, l0, l1, r0, r1) => [.string u, wild, .pointer (some ⟨0, 0, none⟩), ii 0, .pointer (some ⟨1, 0, none⟩), .pointer (some ⟨2, 0, none⟩), wild, wild, wild, wild, wild, wild, wild, wild, ii (u.size : Int), ii i, wild, wild, wild, wild, wild, wild, wild, wild, wild, wild, wild, wild, wild, wild, wild, wild, wild, wild, wild, wild, wild]) (fun (s : Int × Int × Int × Int × Int) => match s with | (i, l0, l1, r0, r1) => [(ti23.zero, some 23), ([ii l0, ii l1], some t_impl_Point), ([ii r0, ii r1], some t_impl_Point)]) (fun (s : Int × Int × Int × Int × Int) => match s with | (i, l0, l1, r0, r1) => ((u.data.toList.length : Int) - i).toNat) (fun (s : Int × Int × Int × Int × Int) => match s with | (i, l0, l1, r0, r1) => PI u.data.toList i l0 l1 r0 r1) (0, 0, 1, 1, 0) PI.start ?_) (tmR_rfl rfl rfl) ⟨⟨⟨_, rfl, .plain rfl rfl (by first | exact Plain.of rfl | exact Row.all (by assumption))⟩⟩, ⟨⟨_, rfl, .plain rfl rfl (by first | exact Plain.of rfl | exact Row.all (by assumption))⟩⟩, ⟨⟨_, rfl, .plain rfl rfl (by first | exact Plain.of rfl | exact Row.all (by assumption))⟩⟩, trivial⟩ rfl rfl; rintro fuel_ ⟨i, l0, l1, r0, r1⟩ hI IH; replace hI : PI u.data.toList i l0 l1 r0 r1 := hI; conv => whnf)
    | exact next_forget [0, 1, 2] (IH (w64 (i + 1), l0, l1, plusF l0 1 r0, plusF l1 1 r1) (by exact hI.left hl_ (hz_ ▸ (of_decide_eq_true (show decide (i < (u.size : Int)) = true by assumption))) (by exact chL hI.i0 (of_decide_eq_true (show decide (i < (u.size : Int)) = true by assumption)) (by omega) (by assumption))) (by exact hI.mu hl_ (hz_ ▸ (of_decide_eq_true (show decide (i < (u.size : Int)) = true by assumption))))) (tmR_rfl rfl rfl) ⟨⟨⟨_, rfl, .plain rfl rfl (by first | exact Plain.of rfl | exact Row.all (by assumption))⟩⟩, ⟨⟨_, rfl, .plain rfl rfl (by first | exact Plain.of rfl | exact Row.all (by assumption))⟩⟩, ⟨⟨_, rfl, .plain rfl rfl (by first | exact Plain.of rfl | exact Row.all (by assumption))⟩⟩, trivial⟩ rfl rfl
    | exact next_forget [0, 1, 2] (IH (w64 (i + 1), plusF l0 1 r0, plusF l1 1 r1, r0, r1) (by exact hI.right hl_ (hz_ ▸ (of_decide_eq_true (show decide (i < (u.size : Int)) = true by assumption))) (by exact chR hI.i0 (of_decide_eq_true (show decide (i < (u.size : Int)) = true by assumption)) (by omega) (by assumption))) (by exact hI.mu hl_ (hz_ ▸ (of_decide_eq_true (show decide (i < (u.size : Int)) = true by assumption))))) (tmR_rfl rfl rfl) ⟨⟨⟨_, rfl, .plain rfl rfl (by first | exact Plain.of rfl | exact Row.all (by assumption))⟩⟩, ⟨⟨_, rfl, .plain rfl rfl (by first | exact Plain.of rfl | exact Row.all (by assumption))⟩⟩, ⟨⟨_, rfl, .plain rfl rfl (by first | exact Plain.of rfl | exact Row.all (by assumption))⟩⟩, trivial⟩ rfl rfl
    | exact hs
    | (rw [(hI.fin hl_ (hz_ ▸ of_decide_eq_false (show decide (i < (u.size : Int)) = false by assumption))).1, (hI.fin hl_ (hz_ ▸ of_decide_eq_false (show decide (i < (u.size : Int)) = false by assumption))).2]; refine c_impl_Point_told.call ?_; conv => whnf)
    | (refine br_true (decide_eq_true (And.intro ?_ ?_)) ?_; (focus (have := hI.i0; have := (of_decide_eq_true (show decide (i < (u.size : Int)) = true by assumption)); have e_ : w64 (i + 1) = i + 1 := w64_in (by omega) (by omega); omega)); (focus (have := hI.i0; have := (of_decide_eq_true (show decide (i < (u.size : Int)) = true by assumption)); have e_ : w64 (i + 1) = i + 1 := w64_in (by omega) (by omega); omega)); conv => whnf)
    | (refine StoreK.mk rfl ?_; conv => whnf)
    | exact join_same
    | exact (by assumption : (_ : Bool) = (_ : Bool))
    | (refine br_true (by assumption) ?_; conv => whnf)
    | (refine br_false (by assumption) ?_; conv => whnf)
    | (refine br_not ?_; conv => whnf)
    | (refine br_code ?_; conv => whnf)
    | (with_reducible refine br_and ?_; conv => whnf)
    | (with_reducible refine br_or ?_; conv => whnf)
    | (refine br_eq2 ?_; conv => whnf)
    | (refine (c_impl_isPath ?_).call ?_ <;> conv => whnf)
    | (refine (c_impl_isPath ?_).quiet ?_ <;> conv => whnf)
    | (refine c_impl_Point_plus.call ?_; conv => whnf)
    | (refine c_impl_Point_plus.quiet ?_; conv => whnf)
    | (refine c_impl_Point_told.call ?_; conv => whnf)
    | (refine c_impl_Point_told.quiet ?_; conv => whnf)
    | (refine draw_auto (by decide +kernel) ?_; conv => whnf)
    | (refine draw_asg (by decide +kernel) ?_; conv => whnf)
    | (refine draw_st (by decide +kernel) ?_; conv => whnf)
    | (refine draw_call (by decide +kernel) ?_; conv => whnf)
    | (refine enter_same (loop_n 12 ?_); conv => whnf)
    | (refine next_same ?_; conv => whnf)
    | (refine mapK_row (by assumption) ?_; conv => whnf)
    | (refine mapK_plain (Plain.of rfl) ?_; conv => whnf)
    | (refine mapK_lit ?_; conv => whnf)
    | (refine br_split (fun _ => ?_) (fun _ => ?_) <;> conv => whnf)
    | exact (rfl : (_ : Value) = _)
    | (simp only [*]; exact (rfl : (_ : Value) = _))
    | (simp [*]; done))

end Go.Proofs.YtnjepaboecijcaaDoor
