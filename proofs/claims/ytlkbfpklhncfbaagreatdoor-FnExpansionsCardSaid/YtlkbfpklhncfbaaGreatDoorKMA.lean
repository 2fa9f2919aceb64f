/-
  Several texts of this work in one (a claim holds at most 60 files).
  Conditions: as each contract states.
-/
import Derived.Test.YtlkbfpklhncfbaaGreatDoorEvUse
import Derived.Test.YtlkbfpklhncfbaaGreatDoorKM6
import Derived.Test.YtlkbfpklhncfbaaGreatDoorKM9
section
/-
  Calls that read two blocks and hand back a plain value, among calls whose order is open.
  Conditions: none.
-/
set_option linter.unusedVariables false
set_option linter.unusedSimpArgs false
namespace Go.Ev

theorem CallOK.toR {P : Program} {f : Nat} {args : List Value} {mem0 : List (List Value)} {u : Value} {R : Value → Mem → Prop} (h : CallOK P f args (mem0.map fun cs => (cs, none)) R) (hR : ∀ v m, R v m → v = u) (hu : plain u = true)
    (ha : ∀ v ∈ args, ok2 mem0.length v) : CallR P f args mem0 u :=
  ⟨h.enters, hu, fun w ρ0 hl hro hlt => by
    refine (h.run ⟨w, []⟩ ρ0 w (hro.mem hlt hl) (fun v hv => by rw [hro.len]; exact ha v hv)).mono fun e w' ⟨v, mem', σ, he, hok, hm, hr⟩ => ?_
    obtain rfl := hR _ _ hr
    exact ⟨by rw [he, (plain_ok hu 0 (ρ0 ++ σ)).2], hm.toBelow⟩⟩
theorem holds_ro {mem : Mem} {b : Nat} {cs : List Value} (hm : Holds mem b cs) (hcs : allL plain0 cs = true) {w0 : Base} {ρ : List Nat} {w : World} (hmem : MemAt w0 ρ mem w) (r : List Nat) :
    ρ.getD b 0 < w.heap.size ∧ (∀ i x, cs[i]? = some x → w.cell? ⟨ρ.getD b 0, i, none⟩ = some (conc0 r x)) ∧ ∀ x ∈ cs, ok0 r.length x := by
  obtain ⟨kd, hb⟩ := hm
  have hbl : b < ρ.length := by rw [hmem.len]; exact getElem?_len hb
  refine ⟨hmem.lt _ (getD_mem (d := 0) hbl), fun i x hx => ?_, fun x hx => (plain0_ok (allL_spec hcs x hx) _ []).1⟩
  have := (hmem.cell hb hx (plain0_wild (allL_spec hcs x (List.mem_of_getElem? hx)))).1
  have hp := plain0_ok (allL_spec hcs x (List.mem_of_getElem? hx)) 0
  rw [(hp r).2]
  rw [(hp ρ).2] at this
  exact this
theorem CallR.callQ2 {P : Program} {f n c n2 c2 : Nat} {cs cs2 : List Value} {v : Value} (h : CallR P f [.slice (some ⟨0, 0, none⟩) n c, .slice (some ⟨1, 0, none⟩) n2 c2] [cs, cs2] v)
    (hcs : allL plain0 cs = true) (hcs2 : allL plain0 cs2 = true) {mem : Mem} {b b2 : Nat} (hm : Holds mem b cs) (hm2 : Holds mem b2 cs2) : CallQ P f [.slice (some ⟨b, 0, none⟩) n c, .slice (some ⟨b2, 0, none⟩) n2 c2] mem v :=
  ⟨h.enters, (plain_ok h.pres _ []).1, fun w0 ρ w hmem hargs => by
    have h1 := holds_ro hm hcs hmem [ρ.getD b 0, ρ.getD b2 0]
    have h2 := holds_ro hm2 hcs2 hmem [ρ.getD b 0, ρ.getD b2 0]
    have hro : RoAt [ρ.getD b 0, ρ.getD b2 0] [cs, cs2] w := ⟨rfl, fun k cs' hk => by
      match k, hk with
      | 0, hk => cases hk; exact h1
      | 1, hk => cases hk; exact h2
      | k + 2, hk => cases hk⟩
    have := h.run w [ρ.getD b 0, ρ.getD b2 0] hmem.now hro (fun x hx => by
      rcases List.mem_cons.1 hx with rfl | hx
      · exact h1.1
      · rcases List.mem_cons.1 hx with rfl | hx
        · exact h2.1
        · cases hx)
    rw [(plain_ok h.pres 0 ρ).2]
    exact this⟩
theorem CallR.callQn {P : Program} {f n c : Nat} {cs : List Value} {v : Value} (h : CallR P f [.slice none 0 0, .slice (some ⟨0, 0, none⟩) n c] [cs] v)
    (hcs : allL plain0 cs = true) {mem : Mem} {b : Nat} (hm : Holds mem b cs) : CallQ P f [.slice none 0 0, .slice (some ⟨b, 0, none⟩) n c] mem v :=
  ⟨h.enters, (plain_ok h.pres _ []).1, fun w0 ρ w hmem hargs => by
    have h1 := holds_ro hm hcs hmem [ρ.getD b 0]
    have hro : RoAt [ρ.getD b 0] [cs] w := ⟨rfl, fun k cs' hk => by
      match k, hk with
      | 0, hk => cases hk; exact h1
      | k + 1, hk => cases hk⟩
    have := h.run w [ρ.getD b 0] hmem.now hro (fun x hx => by
      rcases List.mem_cons.1 hx with rfl | hx
      · exact h1.1
      · cases hx)
    rw [(plain_ok h.pres 0 ρ).2]
    exact this⟩
theorem CallR.quiet2 {P : Program} {f n c n2 c2 : Nat} {cs cs2 : List Value} {v : Value} (h : CallR P f [.slice (some ⟨0, 0, none⟩) n c, .slice (some ⟨1, 0, none⟩) n2 c2] [cs, cs2] v)
    (hcs : allL plain0 cs = true) (hcs2 : allL plain0 cs2 = true) {mem : Mem} {b b2 : Nat} {k : Value → Prop} (hm : Holds mem b cs) (hm2 : Holds mem b2 cs2) (hk : k v) : ∃ v, CallQ P f [.slice (some ⟨b, 0, none⟩) n c, .slice (some ⟨b2, 0, none⟩) n2 c2] mem v ∧ k v :=
  ⟨v, h.callQ2 hcs hcs2 hm hm2, hk⟩
theorem CallR.quietn {P : Program} {f n c : Nat} {cs : List Value} {v : Value} (h : CallR P f [.slice none 0 0, .slice (some ⟨0, 0, none⟩) n c] [cs] v)
    (hcs : allL plain0 cs = true) {mem : Mem} {b : Nat} {k : Value → Prop} (hm : Holds mem b cs) (hk : k v) : ∃ v, CallQ P f [.slice none 0 0, .slice (some ⟨b, 0, none⟩) n c] mem v ∧ k v :=
  ⟨v, h.callQn hcs hm, hk⟩
end Go.Ev
end

section
/-
  Contracts of functions of the program (printed by a program of this work; Lean checks each).
  Conditions: as each contract states.
-/
namespace Go.Proofs.YtlkbfpklhncfbaaGreatDoor
open Go.Ev Go.RowKit
set_option maxRecDepth 100000
set_option linter.unusedVariables false
set_option linter.unusedSimpArgs false

theorem conv_in {n : Nat} {i : Int} (hn : n ≤ 1000001) (hI : 1 ≤ i ∧ i ≤ 1000001) (h : decide (i < (n : Int)) = true) : 1 ≤ w64 (i + 1) ∧ w64 (i + 1) ≤ 1000001 := by
  have h := of_decide_eq_true h
  rw [w64_in (by omega) (by omega)]; omega
theorem conv_mu {n : Nat} {i : Int} (hn : n ≤ 1000001) (hI : 1 ≤ i ∧ i ≤ 1000001) (h : decide (i < (n : Int)) = true) : ((n : Int) - w64 (i + 1)).toNat < ((n : Int) - i).toNat := by
  have h := of_decide_eq_true h
  rw [w64_in (by omega) (by omega)]; omega
theorem conv_ix {n : Nat} {i : Int} (hI : 1 ≤ i ∧ i ≤ 1000001) (h : decide (i < (n : Int)) = true) : 0 ≤ w64 (i - 1) ∧ w64 (i - 1) < (n : Int) := by
  have h := of_decide_eq_true h
  rw [w64_in (by omega) (by omega)]; omega
theorem conv_iy {n : Nat} {i : Int} (hI : 1 ≤ i ∧ i ≤ 1000001) (h : decide (i < (n : Int)) = true) : 0 ≤ i ∧ i < (n : Int) := by
  have h := of_decide_eq_true h
  omega
theorem row_nilq {S : List Value} {q e : Nat} (h : Row (pl []) S q e 2) : q = 0 := by have := row_pl h; simp at this; omega

theorem c_points5xn {c2 : Nat}  : CallOK Tryz.prog n_laws_points5 [.slice none 0 0, .slice (some ⟨0, 0, none⟩) 0 c2] [([], none)] (fun v m_ => v = bb true ∧ m_ = [([], none)]) := by
  refine callOK_ofF good fn_laws_points5 ?_
  conv => whnf
  all_goals (repeat' first
    | (refine br_true ?_ ?_; (focus (simp; done)); conv => whnf)
    | (refine br_false ?_ ?_; (focus (simp; done)); conv => whnf)
    | exact out_forget [] ⟨rfl, rfl⟩ rfl (okB2_spec rfl) ⟨⟨⟨_, rfl, .plain rfl rfl (by first | exact Plain.of rfl | exact Row.all (by assumption))⟩⟩, trivial⟩ rfl rfl
    | (refine StoreK.mk rfl ?_; conv => whnf)
    | exact join_same
    | exact (by assumption : (_ : Bool) = (_ : Bool))
    | (refine br_true (by assumption) ?_; conv => whnf)
    | (refine br_false (by assumption) ?_; conv => whnf)
    | (refine br_not ?_; conv => whnf)
    | (refine br_code ?_; conv => whnf)
    | (with_reducible refine br_and ?_; conv => whnf)
    | (with_reducible refine br_or ?_; conv => whnf)
    | (refine br_eq2 ?_; conv => whnf)
    | (refine draw_auto (by decide +kernel) ?_; conv => whnf)
    | (refine draw_asg (by decide +kernel) ?_; conv => whnf)
    | (refine draw_st (by decide +kernel) ?_; conv => whnf)
    | (refine draw_call (by decide +kernel) ?_; conv => whnf)
    | (refine enter_same (loop_n 12 ?_); conv => whnf)
    | (refine next_same ?_; conv => whnf)
    | (refine mapK_row (by assumption) ?_; conv => whnf)
    | (refine mapK_plain (Plain.of rfl) ?_; conv => whnf)
    | (refine mapK_lit ?_; conv => whnf)
    | (refine br_split (fun _ => ?_) (fun _ => ?_) <;> conv => whnf)
    | exact (rfl : (_ : Value) = _)
    | (simp only [*]; exact (rfl : (_ : Value) = _))
    | (simp [*]; done))

theorem c_points5n {ps : List (Int × Int)} {sp sq : List Value} {n n2 c c2 : Nat} (h1 : Row (pl ps) sp n c 2) (h2 : Row (pl ps) sq n2 c2 2) (hn : n ≤ 1000000000) : CallOK Tryz.prog n_laws_points5 [.slice (some ⟨0, 0, none⟩) n c, .slice (some ⟨1, 0, none⟩) n2 c2] [(pl ps ++ sp, none), (pl ps ++ sq, none)] (fun v m_ => v = bb true ∧ m_ = [(pl ps ++ sp, none), (pl ps ++ sq, none)]) := by
  obtain rfl := row_same h1 h2 (by decide); refine callOK_ofF good fn_laws_points5 ?_
  conv => whnf
  all_goals (repeat' first
    | (refine br_true ?_ ?_; (focus (simp; done)); conv => whnf)
    | (refine br_false ?_ ?_; (focus (simp; done)); conv => whnf)
    | (refine enter_forget [] (loop_rec (fun (s : Int) => match s with | i => [.slice (some ⟨0, 0, none⟩) n c, .slice (some ⟨1, 0, none⟩) n c2, wild, wild, wild, ii i, wild, wild, wild, wild, wild, wild, wild, wild, wild, wild, wild, wild, wild, wild, wild, wild, wild, wild, wild, wild]) (fun (s : Int) => match s with | i => [(pl ps ++ sp, none), (pl ps ++ sq, none)]) (fun (s : Int) => match s with | i => ((n : Int) - i).toNat) (fun (s : Int) => match s with | i => 0 ≤ i ∧ i ≤ (n : Int)) (0) (by (try clear IH); (try simp only [decide_eq_true_eq, decide_eq_false_iff_not, Bool.not_eq_true, Bool.not_eq_false, Bool.not_eq_eq_eq_not, Bool.not_true, Bool.not_false] at *); omega) ?_) (tmR_rfl rfl rfl) ⟨⟨⟨_, rfl, .plain rfl rfl (by first | exact Plain.of rfl | exact Row.all (by assumption))⟩⟩, ⟨⟨_, rfl, .plain rfl rfl (by first | exact Plain.of rfl | exact Row.all (by assumption))⟩⟩, trivial⟩ rfl rfl; rintro fuel_ i hI IH; replace hI : 0 ≤ i ∧ i ≤ (n : Int) := hI; conv => whnf)
    | exact next_forget [] (IH (w64 (i + 1)) (idx_next hI (by assumption) (by omega)) (idx_mu hI (by assumption) (by omega))) (tmR_rfl rfl rfl) ⟨⟨⟨_, rfl, .plain rfl rfl (by first | exact Plain.of rfl | exact Row.all (by assumption))⟩⟩, ⟨⟨_, rfl, .plain rfl rfl (by first | exact Plain.of rfl | exact Row.all (by assumption))⟩⟩, trivial⟩ rfl rfl
    | (refine br_in (by (try clear IH); (try simp only [decide_eq_true_eq, decide_eq_false_iff_not, Bool.not_eq_true, Bool.not_eq_false, Bool.not_eq_eq_eq_not, Bool.not_true, Bool.not_false] at *); omega) (by (try clear IH); (try simp only [decide_eq_true_eq, decide_eq_false_iff_not, Bool.not_eq_true, Bool.not_eq_false, Bool.not_eq_eq_eq_not, Bool.not_true, Bool.not_false] at *); omega) ?_; conv => whnf)
    | (refine force_eq (take_pt (i := (i).toNat) (by omega) (by (try clear IH); have := row_pl h1; (try simp only [decide_eq_true_eq, decide_eq_false_iff_not, Bool.not_eq_true, Bool.not_eq_false, Bool.not_eq_eq_eq_not, Bool.not_true, Bool.not_false] at *); omega)) ?_; conv => whnf)
    | (refine force_eq (take_pt (i := (i).toNat) (by omega) (by (try clear IH); have := row_pl h2; (try simp only [decide_eq_true_eq, decide_eq_false_iff_not, Bool.not_eq_true, Bool.not_eq_false, Bool.not_eq_eq_eq_not, Bool.not_true, Bool.not_false] at *); omega)) ?_; conv => whnf)
    | exact out_forget [] ⟨rfl, rfl⟩ rfl (okB2_spec rfl) ⟨⟨⟨_, rfl, .plain rfl rfl (by first | exact Plain.of rfl | exact Row.all (by assumption))⟩⟩, ⟨⟨_, rfl, .plain rfl rfl (by first | exact Plain.of rfl | exact Row.all (by assumption))⟩⟩, trivial⟩ rfl rfl
    | (refine StoreK.mk rfl ?_; conv => whnf)
    | exact join_same
    | exact (by assumption : (_ : Bool) = (_ : Bool))
    | (refine br_true (by assumption) ?_; conv => whnf)
    | (refine br_false (by assumption) ?_; conv => whnf)
    | (refine br_not ?_; conv => whnf)
    | (refine br_code ?_; conv => whnf)
    | (with_reducible refine br_and ?_; conv => whnf)
    | (with_reducible refine br_or ?_; conv => whnf)
    | (refine br_eq2 ?_; conv => whnf)
    | (refine draw_auto (by decide +kernel) ?_; conv => whnf)
    | (refine draw_asg (by decide +kernel) ?_; conv => whnf)
    | (refine draw_st (by decide +kernel) ?_; conv => whnf)
    | (refine draw_call (by decide +kernel) ?_; conv => whnf)
    | (refine enter_same (loop_n 12 ?_); conv => whnf)
    | (refine next_same ?_; conv => whnf)
    | (refine mapK_row (by assumption) ?_; conv => whnf)
    | (refine mapK_plain (Plain.of rfl) ?_; conv => whnf)
    | (refine mapK_lit ?_; conv => whnf)
    | (refine br_split (fun _ => ?_) (fun _ => ?_) <;> conv => whnf)
    | exact (rfl : (_ : Value) = _)
    | (simp only [*]; exact (rfl : (_ : Value) = _))
    | (simp [*]; done))

theorem c_points5R {ps : List (Int × Int)} {sp sq : List Value} {n n2 c c2 : Nat} (h1 : Row (pl ps) sp n c 2) (h2 : Row (pl ps) sq n2 c2 2) (hn : n ≤ 1000000000) : CallR Tryz.prog n_laws_points5 [.slice (some ⟨0, 0, none⟩) n c, .slice (some ⟨1, 0, none⟩) n2 c2] [pl ps ++ sp, pl ps ++ sq] (bb true) :=
  CallOK.toR (c_points5n h1 h2 hn) (fun v m h => h.1) rfl (fun v hv => by
    rcases List.mem_cons.1 hv with rfl | hv
    · exact Nat.zero_lt_succ _
    · rcases List.mem_cons.1 hv with rfl | hv
      · exact Nat.lt_succ_self _
      · cases hv)
theorem c_points5xR {c2 : Nat} : CallR Tryz.prog n_laws_points5 [.slice none 0 0, .slice (some ⟨0, 0, none⟩) 0 c2] [[]] (bb true) :=
  CallOK.toR c_points5xn (fun v m h => h.1) rfl (fun v hv => by
    rcases List.mem_cons.1 hv with rfl | hv
    · trivial
    · rcases List.mem_cons.1 hv with rfl | hv
      · exact Nat.zero_lt_one
      · cases hv)

end Go.Proofs.YtlkbfpklhncfbaaGreatDoor
end

section
/-
  The rows of laws over drawn bytes: a contract without memory, used at the row. Conditions: none.
-/
set_option linter.unusedVariables false
namespace Go.Ev
open Go.RowKit

theorem run_nil {P : Program} {f : Nat} {W : World} (hl : LayW W) {R : Value → Mem → Prop} (h : CallOK P f [.slice none 0 0] [] R) (hR : ∀ v m, R v m → v = .bool true) :
    Calls P f #[.slice none 0 0] W (fun e w' => e = .returned (.bool true) ∧ Below W.heap.size W w') := by
  have hm : MemAt ⟨W, []⟩ [] [] W := by
    refine ⟨rfl, rfl, rfl, Nat.le_refl _, rfl, fun b hb => (by cases hb), fun i j cs t hi => ?_, fun _ _ _ => rfl, fun k cs t hk => ?_, fun k cs t hk => ?_, fun k cs hk => ?_, ⟨hl, fun _ h => by cases h⟩⟩
    · cases i <;> cases hi
    · cases k <;> cases hk
    · cases k <;> cases hk
    · cases k <;> cases hk
  have := h.run ⟨W, []⟩ [] W hm (fun v hv => by rw [List.mem_singleton] at hv; subst hv; trivial)
  refine this.mono fun e w' ⟨v, mem', σ, h1, h2, h3, h4⟩ => ?_
  have := hR _ _ h4
  subst this
  exact ⟨h1, h3.toBelow⟩

end Go.Ev
end

section
/-
  A function's body, evaluated in parts: behind each part all but what is told is forgotten.
  Conditions: none.
-/
set_option linter.unusedVariables false
set_option linter.unusedSimpArgs false
namespace Go.Ev
open Go.RowKit

noncomputable def evCut (P : Program) (T : Tbl) (m0 : Nat) (n : Nat) : Code → List Value → Mem → Post → Prop :=
  @Nat.rec (fun _ => Code → List Value → Mem → Post → Prop) (fun _ tm mem K => K .normal tm mem)
    (fun _ ih c tm mem K => match c with
      | .seq a b => ev P T m0 a tm mem fun e tm' mem' => match e with
        | .normal => ih b tm' mem' K
        | e => K e tm' mem'
      | _ => False) n
def tlC (n : Nat) : Code → Code :=
  @Nat.rec (fun _ => Code → Code) (fun c => c) (fun _ ih c => match c with
    | .seq _ b => ih b
    | c => c) n
theorem tlC_add : ∀ (n m : Nat) (c : Code), tlC m (tlC n c) = tlC (n + m) c
  | 0, m, c => by rw [Nat.zero_add]; rfl
  | n + 1, m, c => by
    rw [show n + 1 + m = n + m + 1 by omega]
    cases c with
    | seq a b => exact tlC_add n m b
    | _ => exact tlC_stop n m _ (fun a b h => by cases h)
where
  tlC_id : ∀ (m : Nat) (c : Code), (∀ a b, c ≠ .seq a b) → tlC m c = c
    | 0, c, _ => rfl
    | m + 1, c, h => by cases c with
      | seq a b => exact absurd rfl (h a b)
      | _ => rfl
  tlC_stop (n m : Nat) (c : Code) (h : ∀ a b, c ≠ .seq a b) : tlC m (tlC (n + 1) c) = tlC (n + m + 1) c := by
    rw [tlC_id (n + 1) c h, tlC_id m c h, tlC_id _ c h]
theorem evCut_sound {P : Program} {T : Tbl} (hT : T.Ok P) (hmix : P.follows .mixedOrders = true) {w0 : Base} {m0 : Nat} {ρ0 : List Nat} (hρ : ρ0.length = m0) : ∀ (n : Nat) (c : Code) {tm : List Value} {mem : Mem} {K : Post}, evCut P T m0 n c tm mem K →
    ∀ {σ : List Nat} {w : World} {a : Act}, TmAt (ρ0 ++ σ) tm a → MemAt w0 (ρ0 ++ σ) mem w → ∀ {Q : Exit → Act → World → Prop},
    (∀ σ tm' mem' a' w', K .normal tm' mem' → TmAt (ρ0 ++ σ) tm' a' → MemAt w0 (ρ0 ++ σ) mem' w' → (tlC n c).wp P Q a' w') →
    (∀ e σ tm' mem' a' w', e ≠ .normal → K e tm' mem' → TmAt (ρ0 ++ σ) tm' a' → MemAt w0 (ρ0 ++ σ) mem' w' → Q e a' w') → c.wp P Q a w
  | 0, c, tm, mem, K, h, σ, w, a, ha, hm, Q, hN, hQ => hN σ tm mem a w h ha hm
  | n + 1, .seq x y, tm, mem, K, h, σ, w, a, ha, hm, Q, hN, hQ => by
    have h : ev P T m0 x tm mem fun e tm' mem' => match e with
        | .normal => evCut P T m0 n y tm' mem' K
        | e => K e tm' mem' := h
    refine wp_seq (ev_sound hT hmix hρ x h ha hm fun e σ' tm' mem' a' w' hk ha' hm' => ?_)
    cases e with
    | normal => exact evCut_sound hT hmix hρ n y hk ha' hm' hN hQ
    | _ => exact hQ _ σ' _ _ _ _ (by intro h; cases h) hk ha' hm'
  | n + 1, .skip, _, _, _, h, _, _, _, _, _, _, _, _ => (h : False).elim
  | n + 1, .region _ _ _, _, _, _, h, _, _, _, _, _, _, _, _ => (h : False).elim
  | n + 1, .cond _ _ _, _, _, _, h, _, _, _, _, _, _, _, _ => (h : False).elim
  | n + 1, .block _ _, _, _, _, h, _, _, _, _, _, _, _, _ => (h : False).elim
  | n + 1, .loop _, _, _, _, h, _, _, _, _, _, _, _, _ => (h : False).elim
  | n + 1, .rangeFunc _ _ _ _, _, _, _, h, _, _, _, _, _, _, _, _ => (h : False).elim
  | n + 1, .exit _, _, _, _, h, _, _, _, _, _, _, _, _ => (h : False).elim
  | n + 1, .goto _, _, _, _, h, _, _, _, _, _, _, _, _ => (h : False).elim
  | n + 1, .label _, _, _, _, h, _, _, _, _, _, _, _, _ => (h : False).elim
  | n + 1, .ret, _, _, _, h, _, _, _, _, _, _, _, _ => (h : False).elim

/-- What comes behind a part: what the next part is told; or the function's end. -/
def cutP (T : Tbl) (rs : List ResultVar) (K : Value → Mem → Prop) (m0 : Nat) (L : List Value → Mem → Prop) : Post := fun e tm mem => match e with
  | .normal => NextK m0 L tm mem
  | e => finP T rs K e tm mem
/-- From a state that is told so the code comes to the function's end. -/
structure RunsOK (P : Program) (fn : Func) (m0 : Nat) (K : Value → Mem → Prop) (c : Code) (tm : List Value) (mem : Mem) : Prop where
  go : ∀ {w0 : Base} {ρ0 σ : List Nat} {w : World} {a : Act}, ρ0.length = m0 → TmAt (ρ0 ++ σ) tm a → MemAt w0 (ρ0 ++ σ) mem w →
    c.wp P (bodyPost P fn fun e w' => ∃ v mem' σ, e = .returned (conc (ρ0 ++ σ) v) ∧ ok2 (ρ0 ++ σ).length v ∧ MemAt w0 (ρ0 ++ σ) mem' w' ∧ K v mem') a w

section
variable {P : Program} {T : Tbl} {fn : Func} {m0 : Nat} {K : Value → Mem → Prop} {c : Code} {tm : List Value} {mem : Mem}
theorem fin_post (hT : T.Ok P) {w0 : Base} {ρ0 : List Nat} {e : Exit} {σ : List Nat} {tm' : List Value} {mem' : Mem} {a' : Act} {w' : World} (hk : finP T fn.results.toList K e tm' mem') (ha' : TmAt (ρ0 ++ σ) tm' a') (hm' : MemAt w0 (ρ0 ++ σ) mem' w') :
    bodyPost P fn (fun e w' => ∃ v mem' σ, e = .returned (conc (ρ0 ++ σ) v) ∧ ok2 (ρ0 ++ σ).length v ∧ MemAt w0 (ρ0 ++ σ) mem' w' ∧ K v mem') e a' w' := by
  cases e with
  | normal =>
    obtain ⟨v, hk, hs⟩ := outK_sound hT hk
    obtain ⟨h1, h2⟩ := hs w0 _ w' a' ha' hm'
    exact ⟨ha'.defers, _, h2, v, mem', σ, rfl, h1, hm', hk⟩
  | ret =>
    obtain ⟨v, hk, hs⟩ := outK_sound hT hk
    obtain ⟨h1, h2⟩ := hs w0 _ w' a' ha' hm'
    exact ⟨ha'.defers, _, h2, v, mem', σ, rfl, h1, hm', hk⟩
  | _ => exact hk.elim
theorem runs_ev (g : EvGood P T) (h : ev P T m0 c tm mem (finP T fn.results.toList K)) : RunsOK P fn m0 K c tm mem :=
  ⟨fun hρ ha hm => ev_sound g.tbl g.mix hρ c h ha hm fun e σ tm' mem' a' w' hk ha' hm' => fin_post g.tbl hk ha' hm'⟩
theorem runs_cut (g : EvGood P T) {L : List Value → Mem → Prop} (n : Nat) (h : evCut P T m0 n c tm mem (cutP T fn.results.toList K m0 L)) (hr : ∀ tm mem, L tm mem → RunsOK P fn m0 K (tlC n c) tm mem) : RunsOK P fn m0 K c tm mem :=
  ⟨fun hρ ha hm => evCut_sound g.tbl g.mix hρ n c h ha hm
    (fun σ tm' mem' a' w' hk ha' hm' => by
      rcases (show NextK m0 L tm' mem' from hk).or with h | ⟨κ, tm2, mem2, hf, h⟩
      · exact (hr _ _ h).go hρ ha' hm'
      · obtain ⟨σ2, ha2, hm2⟩ := hf.sound hρ ha' hm'
        exact (hr _ _ h).go hρ ha2 hm2)
    (fun e σ tm' mem' a' w' hne hk ha' hm' => by
      have hk : finP T fn.results.toList K e tm' mem' := by
        cases e with
        | normal => exact absurd rfl hne
        | _ => exact hk
      exact fin_post g.tbl hk ha' hm')⟩
theorem runs_fn (g : EvGood P T) {f : Nat} {code : Code} (hf : IsFn P f fn code) {args0 : List Value} {mem0 : Mem} {R : Value → Mem → Prop}
    (h : RunsOK P fn mem0.length (OutK mem0.length R) code (args0 ++ undefs (fn.ntmps - args0.length)) mem0) : CallOK P f args0 mem0 R :=
  ⟨hf.enters, fun w0 ρ w hm hargs => by
    have key : Calls P f (args0.map (conc ρ)).toArray w (fun e w' => ∃ v mem' σ, e = .returned (conc (ρ ++ σ) v) ∧ ok2 (ρ ++ σ).length v ∧ MemAt w0 (ρ ++ σ) mem' w' ∧ OutK mem0.length R v mem') := by
      refine calls_of_wp hf.at_ hf.body ?_
      refine h.go (σ := []) (a := { tmps := _, defers := [] }) hm.len ⟨?_, fun i v hv _ => ?_, rfl⟩ (by rw [List.append_nil]; exact hm)
      · simp [undefs_eq]
      · rw [List.append_nil]
        rw [undefs_eq] at hv
        have hv' := List.mem_of_getElem? hv
        refine ⟨?_, ?_⟩
        · have e1 : (args0.map (conc ρ)).toArray ++ Array.replicate (fn.ntmps - args0.length) undef = ((args0 ++ List.replicate (fn.ntmps - args0.length) undef).map (conc ρ)).toArray := by
            rw [List.map_append, List.map_replicate, conc_undef]
            simp
          have e2 : ((args0.map (conc ρ)).toArray ++ Array.replicate (fn.ntmps - (args0.map (conc ρ)).toArray.size) undef)[i]? = some (conc ρ v) := by
            rw [List.size_toArray, List.length_map, e1]
            simp only [List.getElem?_toArray, List.getElem?_map, hv]
            rfl
          simpa using e2
        · rcases List.mem_append.1 hv' with hv' | hv'
          · exact hargs v hv'
          · rw [List.eq_of_mem_replicate hv']
            exact fun u hu => by cases hu
    exact key.mono fun e w' ⟨v, mem', σ, h1, h2, h3, h4⟩ => by
      rcases h4.ex with h4 | ⟨κ, v', mem'', hR, hS, h4⟩
      · exact ⟨v, mem', σ, h1, h2, h3, h4⟩
      · have hm2 := h3.forget hR
        rw [keep_map hm.len] at hm2
        have hl := (memR_spec hR.blk).1
        have hmap := keep_map (κ := κ) (ρ0 := ρ) (σ := σ) hm.len
        refine ⟨v', mem'', _, ?_, ?_, hm2, h4⟩
        · rw [h1, hS.eq, conc_two (by rw [hl]; exact hS.ok), hmap]
        · rw [← hmap, List.length_map, hl]; exact hS.ok⟩
end
end Go.Ev
end
