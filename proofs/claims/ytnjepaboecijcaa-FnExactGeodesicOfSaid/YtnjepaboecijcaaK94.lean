/-
  Contracts of functions of the program (printed by a program of this work; Lean checks each).
  Conditions: as each contract states.
-/
import Derived.Test.YtnjepaboecijcaaK93
namespace Go.Proofs.Ytnjepaboecijcaa
open Go.Ev Go.RowKit
set_option maxRecDepth 100000
set_option linter.unusedVariables false
set_option linter.unusedSimpArgs false

attribute [local irreducible] isPtF isFracF plusF detF turnX turnY mateX mateY movX movY levL gnx chn

theorem c_impl_GeodesicOf_ok {a b c d : Int} (hp : (isPtF a b && isPtF c d) = true) (hf : (isFracF a b && isFracF c d) = true) (hM : isPtF (movX a b c d) (movY a b c d) = true) : CallOK Try.prog n_impl_GeodesicOf [pt a b, pt c d] [] (fun v m_ => ∃ n k sp, Row (pl (geoL a b c d)) sp n k 2 ∧ n ≤ 1000001 ∧ v = t2 (.slice (some ⟨0, 0, none⟩) n k) (ii 0) ∧ m_ = [(pl (geoL a b c d) ++ sp, some t_impl_Point)]) := by
  have hq_ : isPtF a b = true ∧ isPtF c d = true := (by simpa using hp)
  have hg_ : isFracF a b = true ∧ isFracF c d = true := (by simpa using hf)
  have mv_ : MovOk a b c d := ⟨hg_.1, hg_.2⟩
  have hF_ := mov_fr mv_ hM
  have bk_ := gchL_pt mv_ hM
  have hbd_ := chn_bd (x := (movX a b c d, movY a b c d)) hF_
  refine ⟨fn_impl_GeodesicOf.enters, fun w0 ρ w hm hargs => ?_⟩
  obtain rfl : ρ = [] := List.eq_nil_of_length_eq_zero hm.len
  refine callsIn_wide.1 (callsIn_of_wp_marks (n := 3) fn_impl_GeodesicOf.at_ fn_impl_GeodesicOf.body trivial (wpIn_wide.2 ?_) rfl)
  refine evHd_sound good.tbl good.mix (m0 := 0) (ρ0 := []) rfl 6 code30 (geo_head hp hf hM) (σ := []) (by exact tmAt_start (n := 82) hargs) (by exact hm) (fun σ tm' mem' a' w' hk ha' hm' => ?_) (fun e σ tm' mem' a' w' hne hk ha' hm' => by cases e <;> first | exact (hne rfl).elim | exact (hk : False).elim)
  obtain ⟨ρ', n, k, sz, hrow, ha2, hm2⟩ : ∃ ρ' n k sz, Row (pl (chn (movX a b c d, movY a b c d))) sz n k 2 ∧ TmAt ρ' (geoTm n k) a' ∧ MemAt w0 ρ' (geoMem a b (chn (movX a b c d, movY a b c d)) sz [] [] 0 0) w' := by
    rcases hk.or with ⟨n, k, sz, h1, rfl, rfl⟩ | ⟨κ, _, _, hf_, n, k, sz, h1, rfl, rfl⟩
    · exact ⟨_, n, k, sz, h1, ha', hm'⟩
    · obtain ⟨σ', h2, h3⟩ := hf_.sound (ρ0 := []) rfl ha' hm'
      exact ⟨_, n, k, sz, h1, h2, h3⟩
  refine (wpIn_wide (n := 3)).1 (geo_tail hrow hbd_ (fun y hy => (bk_ y hy).pt) ha2 hm2 (fun r so n k W hr hW => ⟨t2 (.slice (some ⟨0, 0, none⟩) n k) (ii 0), _, [r], rfl, okB2_spec rfl, hW, n, k, so, hr, ?_, rfl, rfl⟩))
  have := row_pl hr
  simp at this
  omega

theorem c_impl_GeodesicOf_no3 {a b c d : Int} (hp : (isPtF a b && isPtF c d) = true) (hf : (isFracF a b && isFracF c d) = true) (hM : isPtF (movX a b c d) (movY a b c d) = false) : CallOK Try.prog n_impl_GeodesicOf [pt a b, pt c d] [] (fun v m_ => v = t2 (.slice none 0 0) (ii 3) ∧ m_ = []) := by
  refine callOK_ofF good fn_impl_GeodesicOf ?_
  conv => whnf
  all_goals (repeat' first
    | exact hM
    | exact out_forget [] ⟨rfl, rfl⟩ rfl (okB2_spec rfl) trivial rfl rfl
    | exact hp
    | exact hf
    | (refine StoreK.mk rfl ?_; conv => whnf)
    | exact join_same
    | exact (by assumption : (_ : Bool) = (_ : Bool))
    | (refine br_true (by assumption) ?_; conv => whnf)
    | (refine br_false (by assumption) ?_; conv => whnf)
    | (refine br_not ?_; conv => whnf)
    | (refine br_code ?_; conv => whnf)
    | (with_reducible refine br_and ?_; conv => whnf)
    | (with_reducible refine br_or ?_; conv => whnf)
    | (refine br_eq2 ?_; conv => whnf)
    | (refine (c_led_no3 ?_ ?_ ?_).call ?_ <;> conv => whnf)
    | (refine (c_led_no3 ?_ ?_ ?_).quiet ?_ <;> conv => whnf)
    | (refine draw_auto (by decide +kernel) ?_; conv => whnf)
    | (refine draw_asg (by decide +kernel) ?_; conv => whnf)
    | (refine draw_st (by decide +kernel) ?_; conv => whnf)
    | (refine draw_call (by decide +kernel) ?_; conv => whnf)
    | (refine enter_same (loop_n 12 ?_); conv => whnf)
    | (refine next_same ?_; conv => whnf)
    | (refine mapK_row (by assumption) ?_; conv => whnf)
    | (refine mapK_plain (Plain.of rfl) ?_; conv => whnf)
    | (refine mapK_lit ?_; conv => whnf)
    | (refine br_split (fun _ => ?_) (fun _ => ?_) <;> conv => whnf)
    | exact (rfl : (_ : Value) = _)
    | (simp only [*]; exact (rfl : (_ : Value) = _))
    | (simp [*]; done))

theorem c_impl_GeodesicOf_no2 {a b c d : Int} (hp : (isPtF a b && isPtF c d) = true) (hf : (isFracF a b && isFracF c d) = false) : CallOK Try.prog n_impl_GeodesicOf [pt a b, pt c d] [] (fun v m_ => v = t2 (.slice none 0 0) (ii 2) ∧ m_ = []) := by
  refine callOK_ofF good fn_impl_GeodesicOf ?_
  conv => whnf
  all_goals (repeat' first
    | exact hM
    | exact out_forget [] ⟨rfl, rfl⟩ rfl (okB2_spec rfl) trivial rfl rfl
    | exact hp
    | exact hf
    | (refine StoreK.mk rfl ?_; conv => whnf)
    | exact join_same
    | exact (by assumption : (_ : Bool) = (_ : Bool))
    | (refine br_true (by assumption) ?_; conv => whnf)
    | (refine br_false (by assumption) ?_; conv => whnf)
    | (refine br_not ?_; conv => whnf)
    | (refine br_code ?_; conv => whnf)
    | (with_reducible refine br_and ?_; conv => whnf)
    | (with_reducible refine br_or ?_; conv => whnf)
    | (refine br_eq2 ?_; conv => whnf)
    | (refine (c_led_no2 ?_ ?_).call ?_ <;> conv => whnf)
    | (refine (c_led_no2 ?_ ?_).quiet ?_ <;> conv => whnf)
    | (refine draw_auto (by decide +kernel) ?_; conv => whnf)
    | (refine draw_asg (by decide +kernel) ?_; conv => whnf)
    | (refine draw_st (by decide +kernel) ?_; conv => whnf)
    | (refine draw_call (by decide +kernel) ?_; conv => whnf)
    | (refine enter_same (loop_n 12 ?_); conv => whnf)
    | (refine next_same ?_; conv => whnf)
    | (refine mapK_row (by assumption) ?_; conv => whnf)
    | (refine mapK_plain (Plain.of rfl) ?_; conv => whnf)
    | (refine mapK_lit ?_; conv => whnf)
    | (refine br_split (fun _ => ?_) (fun _ => ?_) <;> conv => whnf)
    | exact (rfl : (_ : Value) = _)
    | (simp only [*]; exact (rfl : (_ : Value) = _))
    | (simp [*]; done))

theorem c_impl_GeodesicOf_no1 {a b c d : Int} (hp : (isPtF a b && isPtF c d) = false) : CallOK Try.prog n_impl_GeodesicOf [pt a b, pt c d] [] (fun v m_ => v = t2 (.slice none 0 0) (ii 1) ∧ m_ = []) := by
  refine callOK_ofF good fn_impl_GeodesicOf ?_
  conv => whnf
  all_goals (repeat' first
    | exact hM
    | exact out_forget [] ⟨rfl, rfl⟩ rfl (okB2_spec rfl) trivial rfl rfl
    | exact hp
    | exact hf
    | (refine StoreK.mk rfl ?_; conv => whnf)
    | exact join_same
    | exact (by assumption : (_ : Bool) = (_ : Bool))
    | (refine br_true (by assumption) ?_; conv => whnf)
    | (refine br_false (by assumption) ?_; conv => whnf)
    | (refine br_not ?_; conv => whnf)
    | (refine br_code ?_; conv => whnf)
    | (with_reducible refine br_and ?_; conv => whnf)
    | (with_reducible refine br_or ?_; conv => whnf)
    | (refine br_eq2 ?_; conv => whnf)
    | (refine (c_led_no1 ?_).call ?_ <;> conv => whnf)
    | (refine (c_led_no1 ?_).quiet ?_ <;> conv => whnf)
    | (refine draw_auto (by decide +kernel) ?_; conv => whnf)
    | (refine draw_asg (by decide +kernel) ?_; conv => whnf)
    | (refine draw_st (by decide +kernel) ?_; conv => whnf)
    | (refine draw_call (by decide +kernel) ?_; conv => whnf)
    | (refine enter_same (loop_n 12 ?_); conv => whnf)
    | (refine next_same ?_; conv => whnf)
    | (refine mapK_row (by assumption) ?_; conv => whnf)
    | (refine mapK_plain (Plain.of rfl) ?_; conv => whnf)
    | (refine mapK_lit ?_; conv => whnf)
    | (refine br_split (fun _ => ?_) (fun _ => ?_) <;> conv => whnf)
    | exact (rfl : (_ : Value) = _)
    | (simp only [*]; exact (rfl : (_ : Value) = _))
    | (simp [*]; done))

end Go.Proofs.Ytnjepaboecijcaa
