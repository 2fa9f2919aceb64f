/-
  Contracts of functions of the program (printed by a program of this work; Lean checks each).
  Conditions: as each contract states.
-/
import Derived.Test.YtndmkibdcfpddaaKM2
namespace Go.Proofs.Ytndmkibdcfpddaa
open Go.Ev Go.RowKit
set_option maxRecDepth 100000
set_option linter.unusedVariables false
set_option linter.unusedSimpArgs false

attribute [local irreducible] Cn.nxS Cn.fold Cn.own insS

set_option maxHeartbeats 8000000 in
theorem c_l08Box {k : Cn} (hk : k.Ok) : CallOK Try.prog n_spec_l08Box [v9 k.a k.b k.c k.d k.e k.f k.g k.h k.i] [] (fun v m_ => ∃ n c sp, Row (sl (boxO k)) sp n c 3 ∧ n ≤ 64000000 ∧ v = .slice (some ⟨0, 0, none⟩) n c ∧ m_ = [(sl (boxO k) ++ sp, some t_impl_Spot)]) := by
  refine callOK_ofF good fn_spec_l08Box ?_
  conv => whnf
  all_goals (repeat' first
    | (refine enter_forget [0, 1, 2] (loop_rec (fun (s : Int × (List S3) × (List Value) × Nat × Nat × (List S3) × (List Value) × Nat × Nat) => match s with | (j, L2, sp2, n2, c2, O2, so2, m2, d2) => [v9 k.a k.b k.c k.d k.e k.f k.g k.h k.i, .pointer (some ⟨0, 0, none⟩), .slice none 0 0, .slice (some ⟨1, 0, none⟩) m2 d2, .slice (some ⟨2, 0, none⟩) n2 c2, ii i, ii j, wild, wild, wild, wild, wild, wild, wild, wild, wild, wild, wild, wild, wild, wild, wild, wild, wild, wild, wild, wild, wild, wild, wild, wild, wild, wild, wild, wild, wild, wild, wild, wild, wild, wild, wild, wild, wild, wild, wild, wild, wild, wild]) (fun (s : Int × (List S3) × (List Value) × Nat × Nat × (List S3) × (List Value) × Nat × Nat) => match s with | (j, L2, sp2, n2, c2, O2, so2, m2, d2) => [([ii k.a, ii k.b, ii k.c, ii k.d, ii k.e, ii k.f, ii k.g, ii k.h, ii k.i], some t_impl_Cone), (sl O2 ++ so2, some t_impl_Spot), (sl L2 ++ sp2, some t_impl_Spot)]) (fun (s : Int × (List S3) × (List Value) × Nat × Nat × (List S3) × (List Value) × Nat × Nat) => match s with | (j, L2, sp2, n2, c2, O2, so2, m2, d2) => (3 - j).toNat) (fun (s : Int × (List S3) × (List Value) × Nat × Nat × (List S3) × (List Value) × Nat × Nat) => match s with | (j, L2, sp2, n2, c2, O2, so2, m2, d2) => BxI k i j L2 O2 ∧ Row (sl L2) sp2 n2 c2 3 ∧ Row (sl O2) so2 m2 d2 3) (0, L, sp, n, c, O, so, m, d) ⟨hI1.1.enter (by have h5_ := row_sl hI1.2.1; have := of_decide_eq_true (show decide (i < (n : Int)) = true by assumption); omega), hI1.2.1, hI1.2.2⟩ ?_) (tmR_rfl rfl rfl) ⟨⟨⟨_, rfl, .plain rfl rfl (by first | exact Plain.of rfl | exact Row.all (by assumption))⟩⟩, ⟨⟨_, rfl, .plain rfl rfl (Row.all hI1.2.2)⟩⟩, ⟨⟨_, rfl, .plain rfl rfl (Row.all hI1.2.1)⟩⟩, trivial⟩ rfl rfl; rintro fuel_2 ⟨j, L2, sp2, n2, c2, O2, so2, m2, d2⟩ hI2 IH2; replace hI2 : BxI k i j L2 O2 ∧ Row (sl L2) sp2 n2 c2 3 ∧ Row (sl O2) so2 m2 d2 3 := hI2; conv => whnf)
    | (refine enter_forget [0, 1, 2] (loop_rec (fun (s : Int × (List S3) × (List Value) × Nat × Nat × (List S3) × (List Value) × Nat × Nat) => match s with | (i, L, sp, n, c, O, so, m, d) => [v9 k.a k.b k.c k.d k.e k.f k.g k.h k.i, .pointer (some ⟨0, 0, none⟩), .slice none 0 0, .slice (some ⟨1, 0, none⟩) m d, .slice (some ⟨2, 0, none⟩) n c, ii i, wild, wild, wild, wild, wild, wild, wild, wild, wild, wild, wild, wild, wild, wild, wild, wild, wild, wild, wild, wild, wild, wild, wild, wild, wild, wild, wild, wild, wild, wild, wild, wild, wild, wild, wild, wild, wild, wild, wild, wild, wild, wild, wild]) (fun (s : Int × (List S3) × (List Value) × Nat × Nat × (List S3) × (List Value) × Nat × Nat) => match s with | (i, L, sp, n, c, O, so, m, d) => [([ii k.a, ii k.b, ii k.c, ii k.d, ii k.e, ii k.f, ii k.g, ii k.h, ii k.i], some t_impl_Cone), (sl O ++ so, some t_impl_Spot), (sl L ++ sp, some t_impl_Spot)]) (fun (s : Int × (List S3) × (List Value) × Nat × Nat × (List S3) × (List Value) × Nat × Nat) => match s with | (i, L, sp, n, c, O, so, m, d) => (64000001 - i).toNat) (fun (s : Int × (List S3) × (List Value) × Nat × Nat × (List S3) × (List Value) × Nat × Nat) => match s with | (i, L, sp, n, c, O, so, m, d) => BxO k i L O ∧ Row (sl L) sp n c 3 ∧ Row (sl O) so m d 3) (0, [(0, 0, 0)], [], 1, 1, [(0, 0, 0)], [], 1, 1) ⟨BxO.start hk, Row.lit rfl rfl, Row.lit rfl rfl⟩ ?_) (tmR_rfl rfl rfl) ⟨⟨⟨_, rfl, .plain rfl rfl (by first | exact Plain.of rfl | exact Row.all (by assumption))⟩⟩, ⟨⟨_, rfl, .plain rfl rfl (Plain.of rfl)⟩⟩, ⟨⟨_, rfl, .plain rfl rfl (Plain.of rfl)⟩⟩, trivial⟩ rfl rfl; rintro fuel_1 ⟨i, L, sp, n, c, O, so, m, d⟩ hI1 IH1; replace hI1 : BxO k i L O ∧ Row (sl L) sp n c 3 ∧ Row (sl O) so m d 3 := hI1; conv => whnf)
    | exact next_forget [0, 1, 2] (IH2 (w64 (0 + 1), L2, sp2, n2, c2, O2, so2, m2, d2) ⟨hI2.1.old (by omega) hm_, hI2.2.1, hI2.2.2⟩ (hI2.1.mu (by omega))) (tmR_rfl rfl rfl) ⟨⟨⟨_, rfl, .plain rfl rfl (by first | exact Plain.of rfl | exact Row.all (by assumption))⟩⟩, ⟨⟨_, rfl, .plain rfl rfl (Row.all hI2.2.2)⟩⟩, ⟨⟨_, rfl, .plain rfl rfl (Row.all hI2.2.1)⟩⟩, trivial⟩ rfl rfl
    | exact next_forget [0, _, 2] (IH2 (w64 (0 + 1), L2 ++ [k.nxS (L2.getD i.toNat (0, 0, 0)) 0], spa_, n2 + 1, c2, insS O2 (k.nxS (L2.getD i.toNat (0, 0, 0)) 0), sb_, nb_, cb_) ⟨hI2.1.new (by omega) hm_, (by rw [sl_snoc]; exact ra_), hrb_⟩ (hI2.1.mu (by omega))) (tmR_rfl rfl rfl) ⟨⟨⟨_, rfl, .plain rfl rfl (by first | exact Plain.of rfl | exact Row.all (by assumption))⟩⟩, ⟨⟨_, rfl, .plain rfl rfl (Row.all hrb_)⟩⟩, ⟨⟨_, rfl, .plain (by rw [sl_snoc] <;> rfl) rfl (by rw [sl_snoc]; exact Row.all ra_)⟩⟩, trivial⟩ rfl rfl
    | exact next_forget [0, _, _] (IH2 (w64 (0 + 1), L2 ++ [k.nxS (L2.getD i.toNat (0, 0, 0)) 0], spa_, n2 + 1, ca_, insS O2 (k.nxS (L2.getD i.toNat (0, 0, 0)) 0), sb_, nb_, cb_) ⟨hI2.1.new (by omega) hm_, (by rw [sl_snoc]; exact ra_), hrb_⟩ (hI2.1.mu (by omega))) (tmR_rfl rfl rfl) ⟨⟨⟨_, rfl, .plain rfl rfl (by first | exact Plain.of rfl | exact Row.all (by assumption))⟩⟩, ⟨⟨_, rfl, .plain rfl rfl (Row.all hrb_)⟩⟩, ⟨⟨_, rfl, .plain (by rw [sl_snoc] <;> rfl) rfl (by rw [sl_snoc]; exact Row.all ra_)⟩⟩, trivial⟩ rfl rfl
    | exact next_forget [0, 1, 2] (IH2 (w64 (1 + 1), L2, sp2, n2, c2, O2, so2, m2, d2) ⟨hI2.1.old (by omega) hm_, hI2.2.1, hI2.2.2⟩ (hI2.1.mu (by omega))) (tmR_rfl rfl rfl) ⟨⟨⟨_, rfl, .plain rfl rfl (by first | exact Plain.of rfl | exact Row.all (by assumption))⟩⟩, ⟨⟨_, rfl, .plain rfl rfl (Row.all hI2.2.2)⟩⟩, ⟨⟨_, rfl, .plain rfl rfl (Row.all hI2.2.1)⟩⟩, trivial⟩ rfl rfl
    | exact next_forget [0, _, 2] (IH2 (w64 (1 + 1), L2 ++ [k.nxS (L2.getD i.toNat (0, 0, 0)) 1], spa_, n2 + 1, c2, insS O2 (k.nxS (L2.getD i.toNat (0, 0, 0)) 1), sb_, nb_, cb_) ⟨hI2.1.new (by omega) hm_, (by rw [sl_snoc]; exact ra_), hrb_⟩ (hI2.1.mu (by omega))) (tmR_rfl rfl rfl) ⟨⟨⟨_, rfl, .plain rfl rfl (by first | exact Plain.of rfl | exact Row.all (by assumption))⟩⟩, ⟨⟨_, rfl, .plain rfl rfl (Row.all hrb_)⟩⟩, ⟨⟨_, rfl, .plain (by rw [sl_snoc] <;> rfl) rfl (by rw [sl_snoc]; exact Row.all ra_)⟩⟩, trivial⟩ rfl rfl
    | exact next_forget [0, _, _] (IH2 (w64 (1 + 1), L2 ++ [k.nxS (L2.getD i.toNat (0, 0, 0)) 1], spa_, n2 + 1, ca_, insS O2 (k.nxS (L2.getD i.toNat (0, 0, 0)) 1), sb_, nb_, cb_) ⟨hI2.1.new (by omega) hm_, (by rw [sl_snoc]; exact ra_), hrb_⟩ (hI2.1.mu (by omega))) (tmR_rfl rfl rfl) ⟨⟨⟨_, rfl, .plain rfl rfl (by first | exact Plain.of rfl | exact Row.all (by assumption))⟩⟩, ⟨⟨_, rfl, .plain rfl rfl (Row.all hrb_)⟩⟩, ⟨⟨_, rfl, .plain (by rw [sl_snoc] <;> rfl) rfl (by rw [sl_snoc]; exact Row.all ra_)⟩⟩, trivial⟩ rfl rfl
    | exact next_forget [0, 1, 2] (IH2 (w64 (2 + 1), L2, sp2, n2, c2, O2, so2, m2, d2) ⟨hI2.1.old (by omega) hm_, hI2.2.1, hI2.2.2⟩ (hI2.1.mu (by omega))) (tmR_rfl rfl rfl) ⟨⟨⟨_, rfl, .plain rfl rfl (by first | exact Plain.of rfl | exact Row.all (by assumption))⟩⟩, ⟨⟨_, rfl, .plain rfl rfl (Row.all hI2.2.2)⟩⟩, ⟨⟨_, rfl, .plain rfl rfl (Row.all hI2.2.1)⟩⟩, trivial⟩ rfl rfl
    | exact next_forget [0, _, 2] (IH2 (w64 (2 + 1), L2 ++ [k.nxS (L2.getD i.toNat (0, 0, 0)) 2], spa_, n2 + 1, c2, insS O2 (k.nxS (L2.getD i.toNat (0, 0, 0)) 2), sb_, nb_, cb_) ⟨hI2.1.new (by omega) hm_, (by rw [sl_snoc]; exact ra_), hrb_⟩ (hI2.1.mu (by omega))) (tmR_rfl rfl rfl) ⟨⟨⟨_, rfl, .plain rfl rfl (by first | exact Plain.of rfl | exact Row.all (by assumption))⟩⟩, ⟨⟨_, rfl, .plain rfl rfl (Row.all hrb_)⟩⟩, ⟨⟨_, rfl, .plain (by rw [sl_snoc] <;> rfl) rfl (by rw [sl_snoc]; exact Row.all ra_)⟩⟩, trivial⟩ rfl rfl
    | exact next_forget [0, _, _] (IH2 (w64 (2 + 1), L2 ++ [k.nxS (L2.getD i.toNat (0, 0, 0)) 2], spa_, n2 + 1, ca_, insS O2 (k.nxS (L2.getD i.toNat (0, 0, 0)) 2), sb_, nb_, cb_) ⟨hI2.1.new (by omega) hm_, (by rw [sl_snoc]; exact ra_), hrb_⟩ (hI2.1.mu (by omega))) (tmR_rfl rfl rfl) ⟨⟨⟨_, rfl, .plain rfl rfl (by first | exact Plain.of rfl | exact Row.all (by assumption))⟩⟩, ⟨⟨_, rfl, .plain rfl rfl (Row.all hrb_)⟩⟩, ⟨⟨_, rfl, .plain (by rw [sl_snoc] <;> rfl) rfl (by rw [sl_snoc]; exact Row.all ra_)⟩⟩, trivial⟩ rfl rfl
    | exact next_forget [0, 1, 2] (IH1 (w64 (i + 1), L2, sp2, n2, c2, O2, so2, m2, d2) ⟨hI2.1.out (of_decide_eq_false (by assumption)), hI2.2.1, hI2.2.2⟩ (hI1.1.mu (by have h5_ := row_sl hI1.2.1; have := of_decide_eq_true (show decide (i < (n : Int)) = true by assumption); omega))) (tmR_rfl rfl rfl) ⟨⟨⟨_, rfl, .plain rfl rfl (by first | exact Plain.of rfl | exact Row.all (by assumption))⟩⟩, ⟨⟨_, rfl, .plain rfl rfl (Row.all hI2.2.2)⟩⟩, ⟨⟨_, rfl, .plain rfl rfl (Row.all hI2.2.1)⟩⟩, trivial⟩ rfl rfl
    | (show brK (decide (0 ≤ j ∧ j < _)) _ _; rcases hI2.1.three (of_decide_eq_true (show decide (j < (3 : Int)) = true by assumption)) with rfl | rfl | rfl <;> conv => whnf)
    | (refine br_in hI2.1.lo (by have h5_ := row_sl hI2.2.1; have := hI2.1.hi; omega) ?_; conv => whnf)
    | (refine force_eq (take_sp (ps := L2) (i := i.toNat) ?_ ?_) ?_; (focus (simp only [Nat.zero_add]; done)); (focus (have := hI2.1.lo; have := hI2.1.hi; omega)); conv => whnf)
    | (refine (c_l08Plus_unit hI2.1.sm6 0).call ?_; conv => whnf)
    | (refine (c_l08Plus_unit hI2.1.sm6 0).quiet ?_; conv => whnf)
    | (refine (c_l08Nx hk hI2.1.sm6 0).call ?_; conv => whnf)
    | (refine (c_l08Nx hk hI2.1.sm6 0).quiet ?_; conv => whnf)
    | (show CallOK _ n_spec_l08Put [_, v3 (k.nxS (L2.getD i.toNat (0, 0, 0)) 0).1 _ _] _ _; rcases Classical.em ((k.nxS (L2.getD i.toNat (0, 0, 0)) 0) ∈ O2) with hm_ | hm_ <;> first | (refine CallOK.useR (c_l08Put_old (y := (k.nxS (L2.getD i.toNat (0, 0, 0)) 0)) hI2.2.2 hI2.1.asc (by have h5_ := row_sl hI2.2.2; have := hI2.1.len.2; omega) hm_) [_] rfl rfl rfl ⟨⟨⟨_, rfl, .plain rfl (fun _ h_ => by first | exact h_ | cases h_) (Row.all hI2.2.2)⟩⟩, trivial⟩ (fun v_ mem_ hR => ?_); obtain ⟨rfl, rfl⟩ := hR; refine ⟨rfl, ?_⟩; conv => whnf) | (refine CallOK.useR (c_l08Put_new (y := (k.nxS (L2.getD i.toNat (0, 0, 0)) 0)) hI2.2.2 hI2.1.asc (by have h5_ := row_sl hI2.2.2; have := hI2.1.len.2; omega) hm_) [_] rfl rfl rfl ⟨⟨⟨_, rfl, .plain rfl (fun _ h_ => by first | exact h_ | cases h_) (Row.all hI2.2.2)⟩⟩, trivial⟩ (fun v_ mem_ hR => ?_); obtain ⟨nb_, cb_, sb_, hrb_, rfl, rfl⟩ := hR; refine ⟨rfl, ?_⟩; conv => whnf))
    | (refine (c_l08Plus_unit hI2.1.sm6 1).call ?_; conv => whnf)
    | (refine (c_l08Plus_unit hI2.1.sm6 1).quiet ?_; conv => whnf)
    | (refine (c_l08Nx hk hI2.1.sm6 1).call ?_; conv => whnf)
    | (refine (c_l08Nx hk hI2.1.sm6 1).quiet ?_; conv => whnf)
    | (show CallOK _ n_spec_l08Put [_, v3 (k.nxS (L2.getD i.toNat (0, 0, 0)) 1).1 _ _] _ _; rcases Classical.em ((k.nxS (L2.getD i.toNat (0, 0, 0)) 1) ∈ O2) with hm_ | hm_ <;> first | (refine CallOK.useR (c_l08Put_old (y := (k.nxS (L2.getD i.toNat (0, 0, 0)) 1)) hI2.2.2 hI2.1.asc (by have h5_ := row_sl hI2.2.2; have := hI2.1.len.2; omega) hm_) [_] rfl rfl rfl ⟨⟨⟨_, rfl, .plain rfl (fun _ h_ => by first | exact h_ | cases h_) (Row.all hI2.2.2)⟩⟩, trivial⟩ (fun v_ mem_ hR => ?_); obtain ⟨rfl, rfl⟩ := hR; refine ⟨rfl, ?_⟩; conv => whnf) | (refine CallOK.useR (c_l08Put_new (y := (k.nxS (L2.getD i.toNat (0, 0, 0)) 1)) hI2.2.2 hI2.1.asc (by have h5_ := row_sl hI2.2.2; have := hI2.1.len.2; omega) hm_) [_] rfl rfl rfl ⟨⟨⟨_, rfl, .plain rfl (fun _ h_ => by first | exact h_ | cases h_) (Row.all hI2.2.2)⟩⟩, trivial⟩ (fun v_ mem_ hR => ?_); obtain ⟨nb_, cb_, sb_, hrb_, rfl, rfl⟩ := hR; refine ⟨rfl, ?_⟩; conv => whnf))
    | (refine (c_l08Plus_unit hI2.1.sm6 2).call ?_; conv => whnf)
    | (refine (c_l08Plus_unit hI2.1.sm6 2).quiet ?_; conv => whnf)
    | (refine (c_l08Nx hk hI2.1.sm6 2).call ?_; conv => whnf)
    | (refine (c_l08Nx hk hI2.1.sm6 2).quiet ?_; conv => whnf)
    | (show CallOK _ n_spec_l08Put [_, v3 (k.nxS (L2.getD i.toNat (0, 0, 0)) 2).1 _ _] _ _; rcases Classical.em ((k.nxS (L2.getD i.toNat (0, 0, 0)) 2) ∈ O2) with hm_ | hm_ <;> first | (refine CallOK.useR (c_l08Put_old (y := (k.nxS (L2.getD i.toNat (0, 0, 0)) 2)) hI2.2.2 hI2.1.asc (by have h5_ := row_sl hI2.2.2; have := hI2.1.len.2; omega) hm_) [_] rfl rfl rfl ⟨⟨⟨_, rfl, .plain rfl (fun _ h_ => by first | exact h_ | cases h_) (Row.all hI2.2.2)⟩⟩, trivial⟩ (fun v_ mem_ hR => ?_); obtain ⟨rfl, rfl⟩ := hR; refine ⟨rfl, ?_⟩; conv => whnf) | (refine CallOK.useR (c_l08Put_new (y := (k.nxS (L2.getD i.toNat (0, 0, 0)) 2)) hI2.2.2 hI2.1.asc (by have h5_ := row_sl hI2.2.2; have := hI2.1.len.2; omega) hm_) [_] rfl rfl rfl ⟨⟨⟨_, rfl, .plain rfl (fun _ h_ => by first | exact h_ | cases h_) (Row.all hI2.2.2)⟩⟩, trivial⟩ (fun v_ mem_ hR => ?_); obtain ⟨nb_, cb_, sb_, hrb_, rfl, rfl⟩ := hR; refine ⟨rfl, ?_⟩; conv => whnf))
    | (refine br_true (b := decide ((nb_ : Int) > (m2 : Int))) (decide_eq_true (by have h5_ := row_sl hI2.2.2; have h6_ := row_sl hrb_; have h7_ := ins_len hm_; omega)) ?_; conv => whnf)
    | (refine br_false (b := decide ((m2 : Int) > (m2 : Int))) (decide_eq_false (by omega)) ?_; conv => whnf)
    | (show AppK _ _ _ 3 _ _ _ _ _; refine app_lit hI2.2.1 rfl rfl rfl (Plain.of rfl) rfl rfl (by decide) (by have h5_ := row_sl hI2.2.1; have := hI2.1.len.1; show (_ + 1) * 24 ≤ _; omega) (by have h5_ := row_sl hI2.2.1; have := hI2.1.len.1; omega) (fun hle_ spa_ ra_ => ?_) (fun hle_ ca_ spa_ ra_ => ?_) <;> conv => whnf)
    | (obtain ⟨e1_, e2_⟩ := hI1.1.fin (by have h5_ := row_sl hI1.2.1; have := of_decide_eq_false (show decide (i < (n : Int)) = false by assumption); omega); have hr_ := hI1.2.2; rw [e2_] at hr_; subst e2_; exact out_forget [_] ⟨_, _, _, hr_, by have h5_ := row_sl hI1.2.2; have := hI1.1.len.2; omega, rfl, rfl⟩ rfl (okB2_spec rfl) ⟨⟨⟨_, rfl, .plain rfl rfl (Row.all hr_)⟩⟩, trivial⟩ rfl rfl)
    | (refine StoreK.mk rfl ?_; conv => whnf)
    | exact join_same
    | exact (by assumption : (_ : Bool) = (_ : Bool))
    | (refine br_true (by assumption) ?_; conv => whnf)
    | (refine br_false (by assumption) ?_; conv => whnf)
    | (refine br_not ?_; conv => whnf)
    | (refine br_code ?_; conv => whnf)
    | (with_reducible refine br_and ?_; conv => whnf)
    | (with_reducible refine br_or ?_; conv => whnf)
    | (refine br_eq2 ?_; conv => whnf)
    | (refine draw_auto (by decide +kernel) ?_; conv => whnf)
    | (refine draw_asg (by decide +kernel) ?_; conv => whnf)
    | (refine draw_st (by decide +kernel) ?_; conv => whnf)
    | (refine draw_call (by decide +kernel) ?_; conv => whnf)
    | (refine enter_same (loop_n 12 ?_); conv => whnf)
    | (refine next_same ?_; conv => whnf)
    | (refine mapK_row (by assumption) ?_; conv => whnf)
    | (refine mapK_plain (Plain.of rfl) ?_; conv => whnf)
    | (refine mapK_lit ?_; conv => whnf)
    | (refine br_split (fun _ => ?_) (fun _ => ?_) <;> conv => whnf)
    | exact (rfl : (_ : Value) = _)
    | (simp only [*]; exact (rfl : (_ : Value) = _))
    | (simp [*]; done))

end Go.Proofs.Ytndmkibdcfpddaa
