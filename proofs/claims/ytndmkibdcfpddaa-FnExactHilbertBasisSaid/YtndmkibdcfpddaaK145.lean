/-
  Contracts of functions of the program (printed by a program of this work; Lean checks each).
  Conditions: as each contract states.
-/
import Derived.Test.YtndmkibdcfpddaaK144
import Derived.Test.YtndmkibdcfpddaaKM2
namespace Go.Proofs.Ytndmkibdcfpddaa
open Go.Ev Go.RowKit
set_option maxRecDepth 100000
set_option linter.unusedVariables false
set_option linter.unusedSimpArgs false

set_option maxHeartbeats 1000000 in
theorem c_Cone_spot_raw {a b c d e f g h i x y z : Int} (hD : decide ((sizeF (volF a b c d e f g h i)) = 0) = false) : Pure Try.prog n_impl_Cone_spot [v9 a b c d e f g h i, v3 x y z] (v3 (w64 ((plusF (plusF (plusF 0 x a) y d) z g).tdiv (sizeF (volF a b c d e f g h i)))) (w64 ((plusF (plusF (plusF 0 x b) y e) z h).tdiv (sizeF (volF a b c d e f g h i)))) (w64 ((plusF (plusF (plusF 0 x c) y f) z i).tdiv (sizeF (volF a b c d e f g h i))))) := by
  refine pure_of good fn_impl_Cone_spot rfl rfl ?_
  conv => whnf
  all_goals (repeat' first
    | exact hD
    | (refine StoreK.mk rfl ?_; conv => whnf)
    | exact join_same
    | exact (by assumption : (_ : Bool) = (_ : Bool))
    | (refine br_true (by assumption) ?_; conv => whnf)
    | (refine br_false (by assumption) ?_; conv => whnf)
    | (refine br_not ?_; conv => whnf)
    | (refine br_code ?_; conv => whnf)
    | (with_reducible refine br_and ?_; conv => whnf)
    | (with_reducible refine br_or ?_; conv => whnf)
    | (refine br_eq2 ?_; conv => whnf)
    | (refine c_impl_Cone_det.call ?_; conv => whnf)
    | (refine c_impl_Cone_det.quiet ?_; conv => whnf)
    | (refine c_impl_size.call ?_; conv => whnf)
    | (refine c_impl_size.quiet ?_; conv => whnf)
    | (refine c_impl_Spot_plus.call ?_; conv => whnf)
    | (refine c_impl_Spot_plus.quiet ?_; conv => whnf)
    | (refine draw_auto (by decide +kernel) ?_; conv => whnf)
    | (refine draw_asg (by decide +kernel) ?_; conv => whnf)
    | (refine draw_st (by decide +kernel) ?_; conv => whnf)
    | (refine draw_call (by decide +kernel) ?_; conv => whnf)
    | (refine enter_same (loop_n 12 ?_); conv => whnf)
    | (refine next_same ?_; conv => whnf)
    | (refine mapK_row (by assumption) ?_; conv => whnf)
    | (refine mapK_plain (Plain.of rfl) ?_; conv => whnf)
    | (refine mapK_lit ?_; conv => whnf)
    | (refine br_split (fun _ => ?_) (fun _ => ?_) <;> conv => whnf)
    | exact (rfl : (_ : Value) = _)
    | (simp only [*]; exact (rfl : (_ : Value) = _))
    | (simp [*]; done))

theorem c_Cone_spot {k : Cn} {p : S3} (h : k.Ok) (hb : k.BoxD (k.own p)) : Pure Try.prog n_impl_Cone_spot [v9 k.a k.b k.c k.d k.e k.f k.g k.h k.i, v3 (k.own p).1 (k.own p).2.1 (k.own p).2.2] (v3 p.1 p.2.1 p.2.2) := by
  obtain ⟨f0, f1, f2⟩ := spot_F h hb
  have hD : decide (sizeF (volF k.a k.b k.c k.d k.e k.f k.g k.h k.i) = 0) = false := by
    rw [Cn.size_F h]; exact decide_eq_false (by have := (Cn.D_le h).1; omega)
  have := c_Cone_spot_raw (x := (k.own p).1) (y := (k.own p).2.1) (z := (k.own p).2.2) hD
  rw [f0, f1, f2] at this
  exact this

set_option maxHeartbeats 4000000 in
theorem c_Cone_spots {k : Cn} {L : List S3} {sp : List Value} {n c : Nat} (hk : k.Ok) (hL : SpL k L) (h1 : Row (sl (L.map k.own)) sp n c 3) : CallOK Try.prog n_impl_Cone_spots [v9 k.a k.b k.c k.d k.e k.f k.g k.h k.i, .slice (some ⟨0, 0, none⟩) n c] [(sl (L.map k.own) ++ sp, none)] (fun v m_ => ∃ n2 c2 s2 L2, L2.Perm L ∧ L2.Pairwise (fun x y => lt3 y x = false) ∧ Row (sl L2) s2 n2 c2 3 ∧ v = .slice (some ⟨1, 0, none⟩) n2 c2 ∧ m_ = [(sl (L.map k.own) ++ sp, none), (sl L2 ++ s2, some t_impl_Spot)]) := by
  refine callOK_ofF good fn_impl_Cone_spots ?_
  conv => whnf
  all_goals (repeat' first
    | (refine enter_forget [1, 2] (loop_rec (fun (s : Int × (List S3) × (List Value) × Nat × Nat) => match s with | (i, O, so, m, d) => [v9 k.a k.b k.c k.d k.e k.f k.g k.h k.i, .slice (some ⟨0, 0, none⟩) n c, .pointer (some ⟨1, 0, none⟩), wild, .slice none 0 0, .slice (some ⟨2, 0, none⟩) m d, wild, wild, wild, .slice (some ⟨0, 0, none⟩) n c, ii (n : Int), ii i, wild, wild, wild, wild, wild, wild, wild, wild, wild, wild, wild, wild, wild]) (fun (s : Int × (List S3) × (List Value) × Nat × Nat) => match s with | (i, O, so, m, d) => [(sl (L.map k.own) ++ sp, none), ([ii k.a, ii k.b, ii k.c, ii k.d, ii k.e, ii k.f, ii k.g, ii k.h, ii k.i], some t_impl_Cone), (sl O ++ so, some t_impl_Spot)]) (fun (s : Int × (List S3) × (List Value) × Nat × Nat) => match s with | (i, O, so, m, d) => ((L.length : Int) - i).toNat) (fun (s : Int × (List S3) × (List Value) × Nat × Nat) => match s with | (i, O, so, m, d) => SpI k L i O ∧ Row (sl O) so m d 3) (0, [], [], 0, 0) ⟨SpI.start, Row.empty⟩ ?_) (tmR_rfl rfl rfl) ⟨⟨⟨_, rfl, .plain rfl rfl (Row.all h1)⟩⟩, ⟨⟨_, rfl, .plain rfl rfl (by first | exact Plain.of rfl | exact Row.all (by assumption))⟩⟩, ⟨⟨_, rfl, .plain rfl rfl Plain.nil⟩⟩, trivial⟩ rfl rfl; rintro fuel_ ⟨i, O, so, m, d⟩ hI IH; replace hI : SpI k L i O ∧ Row (sl O) so m d 3 := hI; conv => whnf)
    | exact next_forget [1, 2] (IH (w64 (i + 1), O ++ [L.getD i.toNat (0, 0, 0)], spa_, m + 1, d) ⟨hI.1.next (by have h5_ := row_sl h1; rw [List.length_map] at h5_; have := (of_decide_eq_true (show decide (i < (n : Int)) = true by assumption)); have := hI.1.lo; omega) (hL.len hk), (by rw [sl_snoc]; exact ra_)⟩ (hI.1.mu (by have h5_ := row_sl h1; rw [List.length_map] at h5_; have := (of_decide_eq_true (show decide (i < (n : Int)) = true by assumption)); have := hI.1.lo; omega) (hL.len hk))) (tmR_rfl rfl rfl) ⟨⟨⟨_, rfl, .plain rfl rfl (Row.all h1)⟩⟩, ⟨⟨_, rfl, .plain rfl rfl (by first | exact Plain.of rfl | exact Row.all (by assumption))⟩⟩, ⟨⟨_, rfl, .plain (by rw [sl_snoc] <;> rfl) rfl (by rw [sl_snoc]; exact Row.all ra_)⟩⟩, trivial⟩ rfl rfl
    | exact next_forget [1, _] (IH (w64 (i + 1), O ++ [L.getD i.toNat (0, 0, 0)], spa_, m + 1, ca_) ⟨hI.1.next (by have h5_ := row_sl h1; rw [List.length_map] at h5_; have := (of_decide_eq_true (show decide (i < (n : Int)) = true by assumption)); have := hI.1.lo; omega) (hL.len hk), (by rw [sl_snoc]; exact ra_)⟩ (hI.1.mu (by have h5_ := row_sl h1; rw [List.length_map] at h5_; have := (of_decide_eq_true (show decide (i < (n : Int)) = true by assumption)); have := hI.1.lo; omega) (hL.len hk))) (tmR_rfl rfl rfl) ⟨⟨⟨_, rfl, .plain rfl rfl (Row.all h1)⟩⟩, ⟨⟨_, rfl, .plain rfl rfl (by first | exact Plain.of rfl | exact Row.all (by assumption))⟩⟩, ⟨⟨_, rfl, .plain (by rw [sl_snoc] <;> rfl) rfl (by rw [sl_snoc]; exact Row.all ra_)⟩⟩, trivial⟩ rfl rfl
    | (refine br_in hI.1.lo (of_decide_eq_true (show decide (i < (n : Int)) = true by assumption)) ?_; conv => whnf)
    | (refine force_eq (take_own (k := k) (L := L) (i := i.toNat) ?_ ?_) ?_; (focus (simp only [Nat.zero_add]; done)); (focus (exact (by have h5_ := row_sl h1; rw [List.length_map] at h5_; have := (of_decide_eq_true (show decide (i < (n : Int)) = true by assumption)); have := hI.1.lo; omega : i.toNat < L.length))); conv => whnf)
    | (refine (c_Cone_spot hk (getD_boxD hL (i := i.toNat) (by have h5_ := row_sl h1; rw [List.length_map] at h5_; have := (of_decide_eq_true (show decide (i < (n : Int)) = true by assumption)); have := hI.1.lo; omega : i.toNat < L.length))).call ?_; conv => whnf)
    | (refine (c_Cone_spot hk (getD_boxD hL (i := i.toNat) (by have h5_ := row_sl h1; rw [List.length_map] at h5_; have := (of_decide_eq_true (show decide (i < (n : Int)) = true by assumption)); have := hI.1.lo; omega : i.toNat < L.length))).quiet ?_; conv => whnf)
    | (show AppK _ _ _ 3 _ _ _ _ _; refine app_lit hI.2 rfl rfl rfl (Plain.of rfl) rfl rfl (by decide) (by have h5_ := row_sl hI.2; have h6_ := hL.len hk; have h7_ := hI.1.out; have h8_ : O.length ≤ L.length := (by rw [h7_, List.length_take]; omega); show (_ + 1) * 24 ≤ _; omega) (by have h5_ := row_sl hI.2; have h6_ := hL.len hk; have h7_ := hI.1.out; have h8_ : O.length ≤ L.length := (by rw [h7_, List.length_take]; omega); omega) (fun hle_ spa_ ra_ => ?_) (fun hle_ ca_ spa_ ra_ => ?_) <;> conv => whnf)
    | (obtain rfl : O = L := hI.1.fin (by have h5_ := row_sl h1; rw [List.length_map] at h5_; have := of_decide_eq_false (show decide (i < (n : Int)) = false by assumption); omega); refine CallOK.useR (c_sort_sp hI.2 (by have h5_ := row_sl hI.2; have h6_ := hL.len hk; omega)) [_] rfl rfl rfl ⟨⟨⟨_, rfl, .plain rfl (fun _ h_ => h_) (Row.all hI.2)⟩⟩, trivial⟩ (fun v_ mem_ hR => ?_); obtain ⟨L2_, hp_, hs_, rfl, rfl⟩ := hR; have hrow2_ := row_perm3 hI.2 hp_.length_eq; refine ⟨rfl, ?_⟩; conv => whnf)
    | (exact out_forget [_] ⟨_, _, _, _, hp_, hs_, hrow2_, rfl, rfl⟩ rfl (okB2_spec rfl) ⟨⟨⟨_, rfl, .plain rfl rfl (Row.all h1)⟩⟩, ⟨⟨_, rfl, .plain rfl rfl (Row.all hrow2_)⟩⟩, trivial⟩ rfl rfl)
    | (refine StoreK.mk rfl ?_; conv => whnf)
    | exact join_same
    | exact (by assumption : (_ : Bool) = (_ : Bool))
    | (refine br_true (by assumption) ?_; conv => whnf)
    | (refine br_false (by assumption) ?_; conv => whnf)
    | (refine br_not ?_; conv => whnf)
    | (refine br_code ?_; conv => whnf)
    | (with_reducible refine br_and ?_; conv => whnf)
    | (with_reducible refine br_or ?_; conv => whnf)
    | (refine br_eq2 ?_; conv => whnf)
    | (refine draw_auto (by decide +kernel) ?_; conv => whnf)
    | (refine draw_asg (by decide +kernel) ?_; conv => whnf)
    | (refine draw_st (by decide +kernel) ?_; conv => whnf)
    | (refine draw_call (by decide +kernel) ?_; conv => whnf)
    | (refine enter_same (loop_n 12 ?_); conv => whnf)
    | (refine next_same ?_; conv => whnf)
    | (refine mapK_row (by assumption) ?_; conv => whnf)
    | (refine mapK_plain (Plain.of rfl) ?_; conv => whnf)
    | (refine mapK_lit ?_; conv => whnf)
    | (refine br_split (fun _ => ?_) (fun _ => ?_) <;> conv => whnf)
    | exact (rfl : (_ : Value) = _)
    | (simp only [*]; exact (rfl : (_ : Value) = _))
    | (simp [*]; done))

end Go.Proofs.Ytndmkibdcfpddaa
