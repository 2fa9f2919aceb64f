/-
  Several texts of this work in one (a claim holds at most 60 files).
  Conditions: as each contract states.
-/
import Derived.Test.YtnjepaboecijcaaEvUse
import Derived.Test.YtnjepaboecijcaaKM2
section
/-
  A function's body, evaluated in parts: behind each part all but what is told is forgotten.
  Conditions: none.
-/
set_option linter.unusedVariables false
set_option linter.unusedSimpArgs false
namespace Go.Ev
open Go.RowKit

noncomputable def evCut (P : Program) (T : Tbl) (m0 : Nat) (n : Nat) : Code → List Value → Mem → Post → Prop :=
  @Nat.rec (fun _ => Code → List Value → Mem → Post → Prop) (fun _ tm mem K => K .normal tm mem)
    (fun _ ih c tm mem K => match c with
      | .seq a b => ev P T m0 a tm mem fun e tm' mem' => match e with
        | .normal => ih b tm' mem' K
        | e => K e tm' mem'
      | _ => False) n
def tlC (n : Nat) : Code → Code :=
  @Nat.rec (fun _ => Code → Code) (fun c => c) (fun _ ih c => match c with
    | .seq _ b => ih b
    | c => c) n
theorem tlC_add : ∀ (n m : Nat) (c : Code), tlC m (tlC n c) = tlC (n + m) c
  | 0, m, c => by rw [Nat.zero_add]; rfl
  | n + 1, m, c => by
    rw [show n + 1 + m = n + m + 1 by omega]
    cases c with
    | seq a b => exact tlC_add n m b
    | _ => exact tlC_stop n m _ (fun a b h => by cases h)
where
  tlC_id : ∀ (m : Nat) (c : Code), (∀ a b, c ≠ .seq a b) → tlC m c = c
    | 0, c, _ => rfl
    | m + 1, c, h => by cases c with
      | seq a b => exact absurd rfl (h a b)
      | _ => rfl
  tlC_stop (n m : Nat) (c : Code) (h : ∀ a b, c ≠ .seq a b) : tlC m (tlC (n + 1) c) = tlC (n + m + 1) c := by
    rw [tlC_id (n + 1) c h, tlC_id m c h, tlC_id _ c h]
theorem evCut_sound {P : Program} {T : Tbl} (hT : T.Ok P) (hmix : P.follows .mixedOrders = true) {w0 : Base} {m0 : Nat} {ρ0 : List Nat} (hρ : ρ0.length = m0) : ∀ (n : Nat) (c : Code) {tm : List Value} {mem : Mem} {K : Post}, evCut P T m0 n c tm mem K →
    ∀ {σ : List Nat} {w : World} {a : Act}, TmAt (ρ0 ++ σ) tm a → MemAt w0 (ρ0 ++ σ) mem w → ∀ {Q : Exit → Act → World → Prop},
    (∀ σ tm' mem' a' w', K .normal tm' mem' → TmAt (ρ0 ++ σ) tm' a' → MemAt w0 (ρ0 ++ σ) mem' w' → (tlC n c).wp P Q a' w') →
    (∀ e σ tm' mem' a' w', e ≠ .normal → K e tm' mem' → TmAt (ρ0 ++ σ) tm' a' → MemAt w0 (ρ0 ++ σ) mem' w' → Q e a' w') → c.wp P Q a w
  | 0, c, tm, mem, K, h, σ, w, a, ha, hm, Q, hN, hQ => hN σ tm mem a w h ha hm
  | n + 1, .seq x y, tm, mem, K, h, σ, w, a, ha, hm, Q, hN, hQ => by
    have h : ev P T m0 x tm mem fun e tm' mem' => match e with
        | .normal => evCut P T m0 n y tm' mem' K
        | e => K e tm' mem' := h
    refine wp_seq (ev_sound hT hmix hρ x h ha hm fun e σ' tm' mem' a' w' hk ha' hm' => ?_)
    cases e with
    | normal => exact evCut_sound hT hmix hρ n y hk ha' hm' hN hQ
    | _ => exact hQ _ σ' _ _ _ _ (by intro h; cases h) hk ha' hm'
  | n + 1, .skip, _, _, _, h, _, _, _, _, _, _, _, _ => (h : False).elim
  | n + 1, .region _ _ _, _, _, _, h, _, _, _, _, _, _, _, _ => (h : False).elim
  | n + 1, .cond _ _ _, _, _, _, h, _, _, _, _, _, _, _, _ => (h : False).elim
  | n + 1, .block _ _, _, _, _, h, _, _, _, _, _, _, _, _ => (h : False).elim
  | n + 1, .loop _, _, _, _, h, _, _, _, _, _, _, _, _ => (h : False).elim
  | n + 1, .rangeFunc _ _ _ _, _, _, _, h, _, _, _, _, _, _, _, _ => (h : False).elim
  | n + 1, .exit _, _, _, _, h, _, _, _, _, _, _, _, _ => (h : False).elim
  | n + 1, .goto _, _, _, _, h, _, _, _, _, _, _, _, _ => (h : False).elim
  | n + 1, .label _, _, _, _, h, _, _, _, _, _, _, _, _ => (h : False).elim
  | n + 1, .ret, _, _, _, h, _, _, _, _, _, _, _, _ => (h : False).elim

/-- What comes behind a part: what the next part is told; or the function's end. -/
def cutP (T : Tbl) (rs : List ResultVar) (K : Value → Mem → Prop) (m0 : Nat) (L : List Value → Mem → Prop) : Post := fun e tm mem => match e with
  | .normal => NextK m0 L tm mem
  | e => finP T rs K e tm mem
/-- From a state that is told so the code comes to the function's end. -/
structure RunsOK (P : Program) (fn : Func) (m0 : Nat) (K : Value → Mem → Prop) (c : Code) (tm : List Value) (mem : Mem) : Prop where
  go : ∀ {w0 : Base} {ρ0 σ : List Nat} {w : World} {a : Act}, ρ0.length = m0 → TmAt (ρ0 ++ σ) tm a → MemAt w0 (ρ0 ++ σ) mem w →
    c.wp P (bodyPost P fn fun e w' => ∃ v mem' σ, e = .returned (conc (ρ0 ++ σ) v) ∧ ok2 (ρ0 ++ σ).length v ∧ MemAt w0 (ρ0 ++ σ) mem' w' ∧ K v mem') a w

section
variable {P : Program} {T : Tbl} {fn : Func} {m0 : Nat} {K : Value → Mem → Prop} {c : Code} {tm : List Value} {mem : Mem}
theorem fin_post (hT : T.Ok P) {w0 : Base} {ρ0 : List Nat} {e : Exit} {σ : List Nat} {tm' : List Value} {mem' : Mem} {a' : Act} {w' : World} (hk : finP T fn.results.toList K e tm' mem') (ha' : TmAt (ρ0 ++ σ) tm' a') (hm' : MemAt w0 (ρ0 ++ σ) mem' w') :
    bodyPost P fn (fun e w' => ∃ v mem' σ, e = .returned (conc (ρ0 ++ σ) v) ∧ ok2 (ρ0 ++ σ).length v ∧ MemAt w0 (ρ0 ++ σ) mem' w' ∧ K v mem') e a' w' := by
  cases e with
  | normal =>
    obtain ⟨v, hk, hs⟩ := outK_sound hT hk
    obtain ⟨h1, h2⟩ := hs w0 _ w' a' ha' hm'
    exact ⟨ha'.defers, _, h2, v, mem', σ, rfl, h1, hm', hk⟩
  | ret =>
    obtain ⟨v, hk, hs⟩ := outK_sound hT hk
    obtain ⟨h1, h2⟩ := hs w0 _ w' a' ha' hm'
    exact ⟨ha'.defers, _, h2, v, mem', σ, rfl, h1, hm', hk⟩
  | _ => exact hk.elim
theorem runs_ev (g : EvGood P T) (h : ev P T m0 c tm mem (finP T fn.results.toList K)) : RunsOK P fn m0 K c tm mem :=
  ⟨fun hρ ha hm => ev_sound g.tbl g.mix hρ c h ha hm fun e σ tm' mem' a' w' hk ha' hm' => fin_post g.tbl hk ha' hm'⟩
theorem runs_cut (g : EvGood P T) {L : List Value → Mem → Prop} (n : Nat) (h : evCut P T m0 n c tm mem (cutP T fn.results.toList K m0 L)) (hr : ∀ tm mem, L tm mem → RunsOK P fn m0 K (tlC n c) tm mem) : RunsOK P fn m0 K c tm mem :=
  ⟨fun hρ ha hm => evCut_sound g.tbl g.mix hρ n c h ha hm
    (fun σ tm' mem' a' w' hk ha' hm' => by
      rcases (show NextK m0 L tm' mem' from hk).or with h | ⟨κ, tm2, mem2, hf, h⟩
      · exact (hr _ _ h).go hρ ha' hm'
      · obtain ⟨σ2, ha2, hm2⟩ := hf.sound hρ ha' hm'
        exact (hr _ _ h).go hρ ha2 hm2)
    (fun e σ tm' mem' a' w' hne hk ha' hm' => by
      have hk : finP T fn.results.toList K e tm' mem' := by
        cases e with
        | normal => exact absurd rfl hne
        | _ => exact hk
      exact fin_post g.tbl hk ha' hm')⟩
theorem runs_fn (g : EvGood P T) {f : Nat} {code : Code} (hf : IsFn P f fn code) {args0 : List Value} {mem0 : Mem} {R : Value → Mem → Prop}
    (h : RunsOK P fn mem0.length (OutK mem0.length R) code (args0 ++ undefs (fn.ntmps - args0.length)) mem0) : CallOK P f args0 mem0 R :=
  ⟨hf.enters, fun w0 ρ w hm hargs => by
    have key : Calls P f (args0.map (conc ρ)).toArray w (fun e w' => ∃ v mem' σ, e = .returned (conc (ρ ++ σ) v) ∧ ok2 (ρ ++ σ).length v ∧ MemAt w0 (ρ ++ σ) mem' w' ∧ OutK mem0.length R v mem') := by
      refine calls_of_wp hf.at_ hf.body ?_
      refine h.go (σ := []) (a := { tmps := _, defers := [] }) hm.len ⟨?_, fun i v hv _ => ?_, rfl⟩ (by rw [List.append_nil]; exact hm)
      · simp [undefs_eq]
      · rw [List.append_nil]
        rw [undefs_eq] at hv
        have hv' := List.mem_of_getElem? hv
        refine ⟨?_, ?_⟩
        · have e1 : (args0.map (conc ρ)).toArray ++ Array.replicate (fn.ntmps - args0.length) undef = ((args0 ++ List.replicate (fn.ntmps - args0.length) undef).map (conc ρ)).toArray := by
            rw [List.map_append, List.map_replicate, conc_undef]
            simp
          have e2 : ((args0.map (conc ρ)).toArray ++ Array.replicate (fn.ntmps - (args0.map (conc ρ)).toArray.size) undef)[i]? = some (conc ρ v) := by
            rw [List.size_toArray, List.length_map, e1]
            simp only [List.getElem?_toArray, List.getElem?_map, hv]
            rfl
          simpa using e2
        · rcases List.mem_append.1 hv' with hv' | hv'
          · exact hargs v hv'
          · rw [List.eq_of_mem_replicate hv']
            exact fun u hu => by cases hu
    exact key.mono fun e w' ⟨v, mem', σ, h1, h2, h3, h4⟩ => by
      rcases h4.ex with h4 | ⟨κ, v', mem'', hR, hS, h4⟩
      · exact ⟨v, mem', σ, h1, h2, h3, h4⟩
      · have hm2 := h3.forget hR
        rw [keep_map hm.len] at hm2
        have hl := (memR_spec hR.blk).1
        have hmap := keep_map (κ := κ) (ρ0 := ρ) (σ := σ) hm.len
        refine ⟨v', mem'', _, ?_, ?_, hm2, h4⟩
        · rw [h1, hS.eq, conc_two (by rw [hl]; exact hS.ok), hmap]
        · rw [← hmap, List.length_map, hl]; exact hS.ok⟩
end
end Go.Ev
end

section
/-
  Contracts of functions of the program (printed by a program of this work; Lean checks each).
  Conditions: as each contract states.
-/
namespace Go.Proofs.Ytnjepaboecijcaa
open Go.Ev Go.RowKit
set_option maxRecDepth 100000
set_option linter.unusedVariables false
set_option linter.unusedSimpArgs false

attribute [local irreducible] isPtF isFracF plusF detF turnX turnY mateX mateY movX movY levL gnx chn geoL apF nearF fdE fdV tmE tmX tmY faultF selF

set_option maxHeartbeats 16000000 in
theorem c_cut_FnGeodesics_L0 {zs : List Int} {off n c : Nat} (hz : n ≤ zs.length) (hb : ∀ z ∈ zs, IsByte z) (hn : n ≤ 4096) : evCut Try.prog tbl 1 7 (code10) [.slice (some ⟨0, off, none⟩) n c, undef, undef, undef, undef, undef, undef, undef, undef, undef, undef, undef, undef, undef, undef, undef, undef, undef, undef, undef, undef, undef, undef, undef, undef, undef, undef, undef, undef, undef, undef, undef, undef, undef, undef, undef, undef, undef, undef, undef, undef, undef, undef, undef, undef, undef, undef, undef, undef, undef, undef, undef, undef, undef, undef, undef, undef, undef, undef, undef, undef, undef, undef, undef, undef, undef, undef, undef, undef, undef, undef, undef, undef, undef, undef, undef, undef, undef, undef, undef, undef, undef, undef, undef, undef, undef, undef, undef, undef, undef, undef, undef, undef, undef, undef, undef, undef, undef, undef, undef, undef, undef, undef, undef, undef, undef, undef, undef, undef, undef, undef, undef, undef, undef, undef, undef, undef, undef, undef, undef, undef, undef, undef, undef, undef, undef, undef, undef, undef, undef, undef, undef, undef, undef, undef, undef, undef, undef, undef, undef, undef, undef, undef, undef, undef, undef, undef, undef, undef, undef, undef, undef, undef, undef, undef, undef, undef, undef, undef, undef, undef, undef, undef, undef, undef, undef, undef, undef, undef, undef, undef, undef, undef, undef, undef, undef, undef, undef, undef, undef, undef, undef, undef, undef, undef, undef, undef, undef, undef, undef, undef, undef, undef, undef, undef, undef, undef, undef, undef, undef, undef, undef, undef, undef, undef, undef, undef, undef, undef, undef, undef, undef, undef, undef, undef, undef, undef, undef, undef, undef, undef, undef, undef, undef, undef, undef, undef, undef, undef, undef, undef, undef, undef, undef, undef, undef, undef, undef, undef, undef, undef, undef, undef, undef, undef, undef, undef, undef, undef, undef, undef, undef, undef, undef, undef, undef, undef, undef, undef, undef, undef, undef, undef, undef, undef, undef, undef, undef, undef, undef, undef, undef, undef, undef, undef, undef, undef] [(away off (bl zs), none)] (cutP tbl Try.f10.results.toList (OutK 1 (fun v m_ => v = bb true ∧ m_ = [(away off (bl zs), none)])) 1 (fun tm mem => tm = [.slice (some ⟨0, off, none⟩) n c, wild, wild, wild, wild, wild, wild, wild, wild, wild, wild, wild, wild, wild, wild, wild, wild, wild, wild, wild, wild, wild, wild, wild, wild, wild, wild, wild, wild, wild, wild, wild, wild, wild, wild, wild, wild, wild, wild, wild, wild, wild, wild, wild, wild, wild, wild, wild, wild, wild, wild, wild, wild, wild, wild, wild, wild, wild, wild, wild, wild, wild, wild, wild, wild, wild, wild, wild, wild, wild, wild, wild, wild, wild, wild, wild, wild, wild, wild, wild, wild, wild, wild, wild, wild, wild, wild, wild, wild, wild, wild, wild, wild, wild, wild, wild, wild, wild, wild, wild, wild, wild, wild, wild, wild, wild, wild, wild, wild, wild, wild, wild, wild, wild, wild, wild, wild, wild, wild, wild, wild, wild, wild, wild, wild, wild, wild, wild, wild, wild, wild, wild, wild, wild, wild, wild, wild, wild, wild, wild, wild, wild, wild, wild, wild, wild, wild, wild, wild, wild, wild, wild, wild, wild, wild, wild, wild, wild, wild, wild, wild, wild, wild, wild, wild, wild, wild, wild, wild, wild, wild, wild, wild, wild, wild, wild, wild, wild, wild, wild, wild, wild, wild, wild, wild, wild, wild, wild, wild, wild, wild, wild, wild, wild, wild, wild, wild, wild, wild, wild, wild, wild, wild, wild, wild, wild, wild, wild, wild, wild, wild, wild, wild, wild, wild, wild, wild, wild, wild, wild, wild, wild, wild, wild, wild, wild, wild, wild, wild, wild, wild, wild, wild, wild, wild, wild, wild, wild, wild, wild, wild, wild, wild, wild, wild, wild, wild, wild, wild, wild, wild, wild, wild, wild, wild, wild, wild, wild, wild, wild, wild, wild, wild, wild, wild, wild, wild, wild, wild, wild, wild, wild, wild, wild, wild, wild, wild] ∧ mem = [(away off (bl zs), none)])) := by
  
  conv => whnf
  all_goals (repeat' first
    | (show NextK _ _ _ _; exact next_forget [] ⟨rfl, rfl⟩ (tmR_rfl rfl rfl) ⟨⟨⟨_, rfl, .lit (away_conc (bl_plain _) _).symm rfl (away_ok (bl_plain _) _)⟩⟩, trivial⟩ rfl rfl)
    | (refine CallOK.useR c_big_L [0] rfl rfl rfl ⟨⟨⟨_, rfl, .lit (away_conc (bl_plain _) _).symm (fun _ h_ => by cases h_) (away_ok (bl_plain _) _)⟩⟩, trivial⟩ (fun v_ mem_ hR => ?_); obtain ⟨rfl, rfl⟩ := hR; refine ⟨rfl, ?_⟩; conv => whnf)
    | (refine br_false (b := decide (((n : Nat) : Int) > 4096)) (decide_eq_false ?_) ?_; (focus omega); conv => whnf)
    | (refine enter_forget [1, 2, 3] (loop_rec (fun (s : Int) => match s with | i => [.slice (some ⟨0, off, none⟩) n c, wild, wild, .pointer (some ⟨1, 0, none⟩), .pointer (some ⟨2, 0, none⟩), .slice (some ⟨3, 0, none⟩) n1_ k1_, wild, wild, wild, ii (fdV ga_ gb_ gc_ gd_), wild, ii i, wild, wild, wild, wild, wild, wild, wild, wild, wild, wild, wild, wild, wild, wild, wild, wild, wild, wild, wild, wild, wild, wild, wild, wild, wild, wild, wild, wild, wild, wild, wild, wild, wild, wild, wild, wild, wild, wild, wild, wild, wild, wild, wild, wild, wild, wild, wild, wild, wild, wild, wild, wild, wild, wild, wild, wild, wild, wild, wild, wild, wild, wild, wild, wild, wild, wild, wild, wild, wild, wild, wild, wild, wild, wild, wild, wild, wild, wild, wild, wild, wild, wild, wild, wild, wild, wild, wild, wild, wild, wild, wild, wild, wild, wild, wild, wild, wild, wild, wild, wild, wild, wild, wild, wild, wild, wild, wild, wild, wild, wild, wild, wild, wild, wild, wild, wild, wild, wild, wild, wild, wild, wild, wild, wild, wild, wild, wild, wild, wild, wild, wild, wild, wild, wild, wild, wild, wild, wild, wild, wild, wild, wild, wild, wild, wild, wild, wild, wild, wild, wild, wild, wild, wild, wild, wild, wild, wild, wild, wild, wild, wild, wild, wild, wild, wild, wild, wild, wild, wild, wild, wild, wild, wild, wild, wild, wild, wild, wild, wild, wild, wild, wild, wild, wild, wild, wild, wild, wild, wild, wild, wild, wild, wild, wild, wild, wild, wild, wild, wild, wild, wild, wild, wild, wild, wild, wild, wild, wild, wild, wild, wild, wild, wild, wild, wild, wild, wild, wild, wild, wild, wild, wild, wild, wild, wild, wild, wild, wild, wild, wild, wild, wild, wild, wild, wild, wild, wild, wild, wild, wild, wild, wild, wild, wild, wild, wild, wild, wild, wild, wild, wild, wild, wild, wild, wild, wild, wild, wild, wild, wild, wild, wild, wild, wild, wild]) (fun (s : Int) => match s with | i => [(away off (bl zs), none), ([ii ga_, ii gb_], some 23), ([ii gc_, ii gd_], some 23), (pl (geoL ga_ gb_ gc_ gd_) ++ s1_, some 23)]) (fun (s : Int) => match s with | i => ((n1_ : Int) - i).toNat) (fun (s : Int) => match s with | i => 1 ≤ i ∧ i ≤ (n1_ : Int)) (1) (by have := (geo_pos (fdE_mov hE_).1 (fdE_mov hE_).2.1); have := row_pl hr1_; omega) ?_) (tmR_rfl rfl rfl) ⟨⟨⟨_, rfl, .lit (away_conc (bl_plain _) _).symm rfl (away_ok (bl_plain _) _)⟩⟩, ⟨⟨_, rfl, .plain rfl rfl (by first | exact Plain.of rfl | exact Row.all (by assumption))⟩⟩, ⟨⟨_, rfl, .plain rfl rfl (by first | exact Plain.of rfl | exact Row.all (by assumption))⟩⟩, ⟨⟨_, rfl, .plain rfl rfl (Row.all hr1_)⟩⟩, trivial⟩ rfl rfl; rintro fuel_ i hI IH; replace hI : 1 ≤ i ∧ i ≤ (n1_ : Int) := hI; conv => whnf)
    | exact next_forget [1, 2, 3] (IH (w64 (i + 1)) (geo_lp hr1_ hn1_ hI (by assumption)).2.2.2.2.1 (geo_lp hr1_ hn1_ hI (by assumption)).2.2.2.2.2.1) (tmR_rfl rfl rfl) ⟨⟨⟨_, rfl, .lit (away_conc (bl_plain _) _).symm rfl (away_ok (bl_plain _) _)⟩⟩, ⟨⟨_, rfl, .plain rfl rfl (by first | exact Plain.of rfl | exact Row.all (by assumption))⟩⟩, ⟨⟨_, rfl, .plain rfl rfl (by first | exact Plain.of rfl | exact Row.all (by assumption))⟩⟩, ⟨⟨_, rfl, .plain rfl rfl (Row.all hr1_)⟩⟩, trivial⟩ rfl rfl
    | (refine force_eq (take_pt (i := (w64 ((n1_ : Int) - 1)).toNat) (Nat.zero_add _) (geo_ix hE_ hr1_ hn1_).2.1) ?_; conv => whnf)
    | (refine force_eq (take_pt (i := (w64 (i - 1)).toNat) (Nat.zero_add _) (geo_lp hr1_ hn1_ hI (by assumption)).2.1) ?_; conv => whnf)
    | (refine force_eq (take_pt (i := i.toNat) (Nat.zero_add _) (geo_lp hr1_ hn1_ hI (by assumption)).2.2.1) ?_; conv => whnf)
    | (refine force_eq (take_pt (i := 0) (Nat.zero_add _) (geo_pos (fdE_mov hE_).1 (fdE_mov hE_).2.1)) ?_; conv => whnf)
    | (refine br_true (geo_ln hE_ hr1_) ?_; conv => whnf)
    | (refine br_true (geo_h1 hE_) ?_; conv => whnf)
    | (refine br_true (geo_h2 hE_) ?_; conv => whnf)
    | (refine br_true (geo_l1 hE_ hr1_ hn1_) ?_; conv => whnf)
    | (refine br_true (geo_l2 hE_ hr1_ hn1_) ?_; conv => whnf)
    | (refine br_in (geo_ix hE_ hr1_ hn1_).1.1 (geo_ix hE_ hr1_ hn1_).1.2 ?_; conv => whnf)
    | (refine br_in (geo_lp hr1_ hn1_ hI (by assumption)).1.1 (geo_lp hr1_ hn1_ hI (by assumption)).1.2 ?_; conv => whnf)
    | (refine br_in (geo_lp hr1_ hn1_ hI (by assumption)).2.2.2.2.2.2.1 (geo_lp hr1_ hn1_ hI (by assumption)).2.2.2.2.2.2.2 ?_; conv => whnf)
    | (refine br_in (by omega) (by have q1_ := geo_pos (fdE_mov hE_).1 (fdE_mov hE_).2.1; have q2_ := row_pl hr1_; omega) ?_; conv => whnf)
    | (refine (geo_nb hE_ hr1_ hn1_ hI (by assumption)).call ?_; conv => whnf)
    | (refine (geo_nb hE_ hr1_ hn1_ hI (by assumption)).quiet ?_; conv => whnf)
    | (refine br_true (decide_eq_true (fd_sym hE_ (of_decide_eq_true (show decide (fdE gc_ gd_ ga_ gb_ = 0) = true by assumption)))) ?_; conv => whnf)
    | (refine br_true (decide_eq_true (fd_m hE_ (of_decide_eq_true (show decide (tmE ga_ gb_ = 0) = true by assumption)) (of_decide_eq_true (show decide (tmE gc_ gd_ = 0) = true by assumption)) (of_decide_eq_true (show decide (fdE (tmX ga_ gb_) (tmY ga_ gb_) (tmX gc_ gd_) (tmY gc_ gd_) = 0) = true by assumption)))) ?_; conv => whnf)
    | (refine (c_near_one (of_decide_eq_true (show decide (fdE fa_ fb_ fc_ fd_ = 0) = true by assumption)) (fun h_ => of_decide_eq_false (show decide (fa_ = fc_) = false by assumption) h_.1)).call ?_; conv => whnf)
    | (refine (c_near_one (of_decide_eq_true (show decide (fdE fa_ fb_ fc_ fd_ = 0) = true by assumption)) (fun h_ => of_decide_eq_false (show decide (fa_ = fc_) = false by assumption) h_.1)).quiet ?_; conv => whnf)
    | (refine (c_near_one (of_decide_eq_true (show decide (fdE fa_ fb_ fc_ fd_ = 0) = true by assumption)) (fun h_ => of_decide_eq_false (show decide (fb_ = fd_) = false by assumption) h_.2)).call ?_; conv => whnf)
    | (refine (c_near_one (of_decide_eq_true (show decide (fdE fa_ fb_ fc_ fd_ = 0) = true by assumption)) (fun h_ => of_decide_eq_false (show decide (fb_ = fd_) = false by assumption) h_.2)).quiet ?_; conv => whnf)
    | (refine CallOK.useD (c_DrawGeo_L hz hb hn) [0] rfl rfl rfl ⟨⟨⟨_, rfl, .lit (away_conc (bl_plain _) _).symm (fun _ h_ => by cases h_) (away_ok (bl_plain _) _)⟩⟩, trivial⟩ (fun v_ mem_ hR => ?_); obtain ⟨ga_, gb_, gc_, gd_, rfl, rfl⟩ := hR; refine ⟨rfl, t2 (pt ga_ gb_) (pt gc_ gd_), fun _ => rfl, ?_⟩; rcases Classical.em (fdE ga_ gb_ gc_ gd_ = 0) with hE_ | hE_ <;> conv => whnf)
    | (refine CallOK.useD (c_DrawFd_L hz hb hn) [0] rfl rfl rfl ⟨⟨⟨_, rfl, .lit (away_conc (bl_plain _) _).symm (fun _ h_ => by cases h_) (away_ok (bl_plain _) _)⟩⟩, trivial⟩ (fun v_ mem_ hR => ?_); obtain ⟨fa_, fb_, fc_, fd_, rfl, rfl⟩ := hR; refine ⟨rfl, t2 (pt fa_ fb_) (pt fc_ fd_), fun _ => rfl, ?_⟩; conv => whnf)
    | (refine CallOK.useD (c_DrawNb_L hz hb hn) [0] rfl rfl rfl ⟨⟨⟨_, rfl, .lit (away_conc (bl_plain _) _).symm (fun _ h_ => by cases h_) (away_ok (bl_plain _) _)⟩⟩, trivial⟩ (fun v_ mem_ hR => ?_); obtain ⟨na_, nb_, nc_, nd_, rfl, rfl⟩ := hR; refine ⟨rfl, t2 (pt na_ nb_) (pt nc_ nd_), fun _ => rfl, ?_⟩; conv => whnf)
    | (refine CallOK.useD (c_DrawAp_L hz hb hn) [0] rfl rfl rfl ⟨⟨⟨_, rfl, .lit (away_conc (bl_plain _) _).symm (fun _ h_ => by cases h_) (away_ok (bl_plain _) _)⟩⟩, trivial⟩ (fun v_ mem_ hR => ?_); obtain ⟨m1_, m2_, m3_, m4_, x_, y_, rfl, rfl⟩ := hR; refine ⟨rfl, t2 (q4 m1_ m2_ m3_ m4_) (pt x_ y_), fun _ => rfl, ?_⟩; conv => whnf)
    | (refine CallOK.useR (c_impl_GeodesicOf_good hE_) [] rfl rfl rfl trivial (fun v_ mem_ hR => ?_); obtain ⟨n1_, k1_, s1_, hr1_, hn1_, rfl, rfl⟩ := hR; refine ⟨rfl, ?_⟩; conv => whnf)
    | (refine CallOK.useR (c_spec_GeodesicOf_good hE_) [] rfl rfl rfl trivial (fun v_ mem_ hR => ?_); obtain ⟨n2_, k2_, s2_, hr2_, hn2_, rfl, rfl⟩ := hR; refine ⟨rfl, ?_⟩; conv => whnf)
    | (refine CallOK.useR (c_impl_GeodesicOf_bad hE_) [] rfl rfl rfl trivial (fun v_ mem_ hR => ?_); obtain ⟨rfl, rfl⟩ := hR; refine ⟨rfl, ?_⟩; conv => whnf)
    | (refine CallOK.useR (c_spec_GeodesicOf_bad hE_) [] rfl rfl rfl trivial (fun v_ mem_ hR => ?_); obtain ⟨rfl, rfl⟩ := hR; refine ⟨rfl, ?_⟩; conv => whnf)
    | (refine CallOK.useR (c_points5 hr1_ hr2_ (by omega)) [_, _] rfl rfl rfl ⟨⟨⟨_, rfl, .plain rfl (fun _ h_ => by first | exact h_ | cases h_) (Row.all hr1_)⟩⟩, ⟨⟨_, rfl, .plain rfl (fun _ h_ => by first | exact h_ | cases h_) (Row.all hr2_)⟩⟩, trivial⟩ (fun v_ mem_ hR => ?_); obtain ⟨rfl, rfl⟩ := hR; refine ⟨rfl, ?_⟩; conv => whnf)
    | (refine (c_points5_nil).call ?_; conv => whnf)
    | (refine (c_points5_nil).quiet ?_; conv => whnf)
    | (refine (c_impl_FareyDistance_good hE_).call ?_; conv => whnf)
    | (refine (c_impl_FareyDistance_good hE_).quiet ?_; conv => whnf)
    | (refine (c_impl_FareyDistance_all _ _ _ _).call ?_; conv => whnf)
    | (refine (c_impl_FareyDistance_all _ _ _ _).quiet ?_; conv => whnf)
    | (refine (c_spec_FareyDistance_all _ _ _ _).call ?_; conv => whnf)
    | (refine (c_spec_FareyDistance_all _ _ _ _).quiet ?_; conv => whnf)
    | (refine (c_impl_Apply_m (fdE_mov hE_).1.fa).call ?_; conv => whnf)
    | (refine (c_impl_Apply_m (fdE_mov hE_).1.fa).quiet ?_; conv => whnf)
    | (refine (c_impl_Apply_m (fdE_mov hE_).1.fc).call ?_; conv => whnf)
    | (refine (c_impl_Apply_m (fdE_mov hE_).1.fc).quiet ?_; conv => whnf)
    | (refine (c_impl_AreNeighbours).call ?_; conv => whnf)
    | (refine (c_impl_AreNeighbours).quiet ?_; conv => whnf)
    | (refine (c_spec_AreNeighbours).call ?_; conv => whnf)
    | (refine (c_spec_AreNeighbours).quiet ?_; conv => whnf)
    | (refine (c_impl_ApplyToFraction).call ?_; conv => whnf)
    | (refine (c_impl_ApplyToFraction).quiet ?_; conv => whnf)
    | (refine (c_spec_ApplyToFraction).call ?_; conv => whnf)
    | (refine (c_spec_ApplyToFraction).quiet ?_; conv => whnf)
    | (show OutK _ _ _ _; exact out_forget [] ⟨rfl, rfl⟩ rfl (okB2_spec rfl) ⟨⟨⟨_, rfl, .lit (away_conc (bl_plain _) _).symm rfl (away_ok (bl_plain _) _)⟩⟩, trivial⟩ rfl rfl)
    | (refine br_true ?_ ?_; (focus (simp; done)); conv => whnf)
    | (refine br_false ?_ ?_; (focus (simp; done)); conv => whnf)
    | (refine br_false (decide_eq_false (by omega)) ?_; conv => whnf)
    | (refine draw_call (by decide +kernel) ?_; conv => whnf)
    | (show OutK _ _ _ _; exact out_forget [] ⟨rfl, rfl⟩ rfl (okB2_spec rfl) ⟨⟨⟨_, rfl, .lit (away_conc (bl_plain _) _).symm rfl (away_ok (bl_plain _) _)⟩⟩, trivial⟩ rfl rfl)
    | (refine StoreK.mk rfl ?_; conv => whnf)
    | exact join_same
    | exact (by assumption : (_ : Bool) = (_ : Bool))
    | (refine br_true (by assumption) ?_; conv => whnf)
    | (refine br_false (by assumption) ?_; conv => whnf)
    | (refine br_not ?_; conv => whnf)
    | (refine br_code ?_; conv => whnf)
    | (with_reducible refine br_and ?_; conv => whnf)
    | (with_reducible refine br_or ?_; conv => whnf)
    | (refine br_eq2 ?_; conv => whnf)
    | (refine draw_auto (by decide +kernel) ?_; conv => whnf)
    | (refine draw_asg (by decide +kernel) ?_; conv => whnf)
    | (refine draw_st (by decide +kernel) ?_; conv => whnf)
    | (refine draw_call (by decide +kernel) ?_; conv => whnf)
    | (refine next_same ?_; conv => whnf)
    | (refine mapK_row (by assumption) ?_; conv => whnf)
    | (refine mapK_plain (Plain.of rfl) ?_; conv => whnf)
    | (refine mapK_lit ?_; conv => whnf)
    | (refine br_split (fun _ => ?_) (fun _ => ?_) <;> conv => whnf)
    | exact (rfl : (_ : Value) = _)
    | (simp only [*]; exact (rfl : (_ : Value) = _))
    | (simp [*]; done))

end Go.Proofs.Ytnjepaboecijcaa
end

section
/-
  Contracts of functions of the program (printed by a program of this work; Lean checks each).
  Conditions: as each contract states.
-/
namespace Go.Proofs.Ytnjepaboecijcaa
open Go.Ev Go.RowKit
set_option maxRecDepth 100000
set_option linter.unusedVariables false
set_option linter.unusedSimpArgs false

attribute [local irreducible] isPtF isFracF plusF detF turnX turnY mateX mateY movX movY levL gnx chn geoL apF nearF fdE fdV tmE tmX tmY faultF selF

set_option maxHeartbeats 16000000 in
theorem c_cut_FnGeodesics_L1 {zs : List Int} {off n c : Nat} (hz : n ≤ zs.length) (hb : ∀ z ∈ zs, IsByte z) (hn : n ≤ 4096) : ev Try.prog tbl 1 (tlC 7 (code10)) [.slice (some ⟨0, off, none⟩) n c, wild, wild, wild, wild, wild, wild, wild, wild, wild, wild, wild, wild, wild, wild, wild, wild, wild, wild, wild, wild, wild, wild, wild, wild, wild, wild, wild, wild, wild, wild, wild, wild, wild, wild, wild, wild, wild, wild, wild, wild, wild, wild, wild, wild, wild, wild, wild, wild, wild, wild, wild, wild, wild, wild, wild, wild, wild, wild, wild, wild, wild, wild, wild, wild, wild, wild, wild, wild, wild, wild, wild, wild, wild, wild, wild, wild, wild, wild, wild, wild, wild, wild, wild, wild, wild, wild, wild, wild, wild, wild, wild, wild, wild, wild, wild, wild, wild, wild, wild, wild, wild, wild, wild, wild, wild, wild, wild, wild, wild, wild, wild, wild, wild, wild, wild, wild, wild, wild, wild, wild, wild, wild, wild, wild, wild, wild, wild, wild, wild, wild, wild, wild, wild, wild, wild, wild, wild, wild, wild, wild, wild, wild, wild, wild, wild, wild, wild, wild, wild, wild, wild, wild, wild, wild, wild, wild, wild, wild, wild, wild, wild, wild, wild, wild, wild, wild, wild, wild, wild, wild, wild, wild, wild, wild, wild, wild, wild, wild, wild, wild, wild, wild, wild, wild, wild, wild, wild, wild, wild, wild, wild, wild, wild, wild, wild, wild, wild, wild, wild, wild, wild, wild, wild, wild, wild, wild, wild, wild, wild, wild, wild, wild, wild, wild, wild, wild, wild, wild, wild, wild, wild, wild, wild, wild, wild, wild, wild, wild, wild, wild, wild, wild, wild, wild, wild, wild, wild, wild, wild, wild, wild, wild, wild, wild, wild, wild, wild, wild, wild, wild, wild, wild, wild, wild, wild, wild, wild, wild, wild, wild, wild, wild, wild, wild, wild, wild, wild, wild, wild, wild, wild, wild, wild, wild, wild, wild] [(away off (bl zs), none)] (finP tbl Try.f10.results.toList (OutK 1 (fun v m_ => v = bb true ∧ m_ = [(away off (bl zs), none)]))) := by
  
  conv => whnf
  all_goals (repeat' first
    | (show NextK _ _ _ _; exact next_forget [] ⟨rfl, rfl⟩ (tmR_rfl rfl rfl) ⟨⟨⟨_, rfl, .lit (away_conc (bl_plain _) _).symm rfl (away_ok (bl_plain _) _)⟩⟩, trivial⟩ rfl rfl)
    | (refine CallOK.useR c_big_L [0] rfl rfl rfl ⟨⟨⟨_, rfl, .lit (away_conc (bl_plain _) _).symm (fun _ h_ => by cases h_) (away_ok (bl_plain _) _)⟩⟩, trivial⟩ (fun v_ mem_ hR => ?_); obtain ⟨rfl, rfl⟩ := hR; refine ⟨rfl, ?_⟩; conv => whnf)
    | (refine br_false (b := decide (((n : Nat) : Int) > 4096)) (decide_eq_false ?_) ?_; (focus omega); conv => whnf)
    | (refine enter_forget [1, 2, 3] (loop_rec (fun (s : Int) => match s with | i => [.slice (some ⟨0, off, none⟩) n c, wild, wild, .pointer (some ⟨1, 0, none⟩), .pointer (some ⟨2, 0, none⟩), .slice (some ⟨3, 0, none⟩) n1_ k1_, wild, wild, wild, ii (fdV ga_ gb_ gc_ gd_), wild, ii i, wild, wild, wild, wild, wild, wild, wild, wild, wild, wild, wild, wild, wild, wild, wild, wild, wild, wild, wild, wild, wild, wild, wild, wild, wild, wild, wild, wild, wild, wild, wild, wild, wild, wild, wild, wild, wild, wild, wild, wild, wild, wild, wild, wild, wild, wild, wild, wild, wild, wild, wild, wild, wild, wild, wild, wild, wild, wild, wild, wild, wild, wild, wild, wild, wild, wild, wild, wild, wild, wild, wild, wild, wild, wild, wild, wild, wild, wild, wild, wild, wild, wild, wild, wild, wild, wild, wild, wild, wild, wild, wild, wild, wild, wild, wild, wild, wild, wild, wild, wild, wild, wild, wild, wild, wild, wild, wild, wild, wild, wild, wild, wild, wild, wild, wild, wild, wild, wild, wild, wild, wild, wild, wild, wild, wild, wild, wild, wild, wild, wild, wild, wild, wild, wild, wild, wild, wild, wild, wild, wild, wild, wild, wild, wild, wild, wild, wild, wild, wild, wild, wild, wild, wild, wild, wild, wild, wild, wild, wild, wild, wild, wild, wild, wild, wild, wild, wild, wild, wild, wild, wild, wild, wild, wild, wild, wild, wild, wild, wild, wild, wild, wild, wild, wild, wild, wild, wild, wild, wild, wild, wild, wild, wild, wild, wild, wild, wild, wild, wild, wild, wild, wild, wild, wild, wild, wild, wild, wild, wild, wild, wild, wild, wild, wild, wild, wild, wild, wild, wild, wild, wild, wild, wild, wild, wild, wild, wild, wild, wild, wild, wild, wild, wild, wild, wild, wild, wild, wild, wild, wild, wild, wild, wild, wild, wild, wild, wild, wild, wild, wild, wild, wild, wild, wild, wild, wild, wild, wild, wild, wild, wild, wild, wild, wild, wild]) (fun (s : Int) => match s with | i => [(away off (bl zs), none), ([ii ga_, ii gb_], some 23), ([ii gc_, ii gd_], some 23), (pl (geoL ga_ gb_ gc_ gd_) ++ s1_, some 23)]) (fun (s : Int) => match s with | i => ((n1_ : Int) - i).toNat) (fun (s : Int) => match s with | i => 1 ≤ i ∧ i ≤ (n1_ : Int)) (1) (by have := (geo_pos (fdE_mov hE_).1 (fdE_mov hE_).2.1); have := row_pl hr1_; omega) ?_) (tmR_rfl rfl rfl) ⟨⟨⟨_, rfl, .lit (away_conc (bl_plain _) _).symm rfl (away_ok (bl_plain _) _)⟩⟩, ⟨⟨_, rfl, .plain rfl rfl (by first | exact Plain.of rfl | exact Row.all (by assumption))⟩⟩, ⟨⟨_, rfl, .plain rfl rfl (by first | exact Plain.of rfl | exact Row.all (by assumption))⟩⟩, ⟨⟨_, rfl, .plain rfl rfl (Row.all hr1_)⟩⟩, trivial⟩ rfl rfl; rintro fuel_ i hI IH; replace hI : 1 ≤ i ∧ i ≤ (n1_ : Int) := hI; conv => whnf)
    | exact next_forget [1, 2, 3] (IH (w64 (i + 1)) (geo_lp hr1_ hn1_ hI (by assumption)).2.2.2.2.1 (geo_lp hr1_ hn1_ hI (by assumption)).2.2.2.2.2.1) (tmR_rfl rfl rfl) ⟨⟨⟨_, rfl, .lit (away_conc (bl_plain _) _).symm rfl (away_ok (bl_plain _) _)⟩⟩, ⟨⟨_, rfl, .plain rfl rfl (by first | exact Plain.of rfl | exact Row.all (by assumption))⟩⟩, ⟨⟨_, rfl, .plain rfl rfl (by first | exact Plain.of rfl | exact Row.all (by assumption))⟩⟩, ⟨⟨_, rfl, .plain rfl rfl (Row.all hr1_)⟩⟩, trivial⟩ rfl rfl
    | (refine force_eq (take_pt (i := (w64 ((n1_ : Int) - 1)).toNat) (Nat.zero_add _) (geo_ix hE_ hr1_ hn1_).2.1) ?_; conv => whnf)
    | (refine force_eq (take_pt (i := (w64 (i - 1)).toNat) (Nat.zero_add _) (geo_lp hr1_ hn1_ hI (by assumption)).2.1) ?_; conv => whnf)
    | (refine force_eq (take_pt (i := i.toNat) (Nat.zero_add _) (geo_lp hr1_ hn1_ hI (by assumption)).2.2.1) ?_; conv => whnf)
    | (refine force_eq (take_pt (i := 0) (Nat.zero_add _) (geo_pos (fdE_mov hE_).1 (fdE_mov hE_).2.1)) ?_; conv => whnf)
    | (refine br_true (geo_ln hE_ hr1_) ?_; conv => whnf)
    | (refine br_true (geo_h1 hE_) ?_; conv => whnf)
    | (refine br_true (geo_h2 hE_) ?_; conv => whnf)
    | (refine br_true (geo_l1 hE_ hr1_ hn1_) ?_; conv => whnf)
    | (refine br_true (geo_l2 hE_ hr1_ hn1_) ?_; conv => whnf)
    | (refine br_in (geo_ix hE_ hr1_ hn1_).1.1 (geo_ix hE_ hr1_ hn1_).1.2 ?_; conv => whnf)
    | (refine br_in (geo_lp hr1_ hn1_ hI (by assumption)).1.1 (geo_lp hr1_ hn1_ hI (by assumption)).1.2 ?_; conv => whnf)
    | (refine br_in (geo_lp hr1_ hn1_ hI (by assumption)).2.2.2.2.2.2.1 (geo_lp hr1_ hn1_ hI (by assumption)).2.2.2.2.2.2.2 ?_; conv => whnf)
    | (refine br_in (by omega) (by have q1_ := geo_pos (fdE_mov hE_).1 (fdE_mov hE_).2.1; have q2_ := row_pl hr1_; omega) ?_; conv => whnf)
    | (refine (geo_nb hE_ hr1_ hn1_ hI (by assumption)).call ?_; conv => whnf)
    | (refine (geo_nb hE_ hr1_ hn1_ hI (by assumption)).quiet ?_; conv => whnf)
    | (refine br_true (decide_eq_true (fd_sym hE_ (of_decide_eq_true (show decide (fdE gc_ gd_ ga_ gb_ = 0) = true by assumption)))) ?_; conv => whnf)
    | (refine br_true (decide_eq_true (fd_m hE_ (of_decide_eq_true (show decide (tmE ga_ gb_ = 0) = true by assumption)) (of_decide_eq_true (show decide (tmE gc_ gd_ = 0) = true by assumption)) (of_decide_eq_true (show decide (fdE (tmX ga_ gb_) (tmY ga_ gb_) (tmX gc_ gd_) (tmY gc_ gd_) = 0) = true by assumption)))) ?_; conv => whnf)
    | (refine (c_near_one (of_decide_eq_true (show decide (fdE fa_ fb_ fc_ fd_ = 0) = true by assumption)) (fun h_ => of_decide_eq_false (show decide (fa_ = fc_) = false by assumption) h_.1)).call ?_; conv => whnf)
    | (refine (c_near_one (of_decide_eq_true (show decide (fdE fa_ fb_ fc_ fd_ = 0) = true by assumption)) (fun h_ => of_decide_eq_false (show decide (fa_ = fc_) = false by assumption) h_.1)).quiet ?_; conv => whnf)
    | (refine (c_near_one (of_decide_eq_true (show decide (fdE fa_ fb_ fc_ fd_ = 0) = true by assumption)) (fun h_ => of_decide_eq_false (show decide (fb_ = fd_) = false by assumption) h_.2)).call ?_; conv => whnf)
    | (refine (c_near_one (of_decide_eq_true (show decide (fdE fa_ fb_ fc_ fd_ = 0) = true by assumption)) (fun h_ => of_decide_eq_false (show decide (fb_ = fd_) = false by assumption) h_.2)).quiet ?_; conv => whnf)
    | (refine CallOK.useD (c_DrawGeo_L hz hb hn) [0] rfl rfl rfl ⟨⟨⟨_, rfl, .lit (away_conc (bl_plain _) _).symm (fun _ h_ => by cases h_) (away_ok (bl_plain _) _)⟩⟩, trivial⟩ (fun v_ mem_ hR => ?_); obtain ⟨ga_, gb_, gc_, gd_, rfl, rfl⟩ := hR; refine ⟨rfl, t2 (pt ga_ gb_) (pt gc_ gd_), fun _ => rfl, ?_⟩; rcases Classical.em (fdE ga_ gb_ gc_ gd_ = 0) with hE_ | hE_ <;> conv => whnf)
    | (refine CallOK.useD (c_DrawFd_L hz hb hn) [0] rfl rfl rfl ⟨⟨⟨_, rfl, .lit (away_conc (bl_plain _) _).symm (fun _ h_ => by cases h_) (away_ok (bl_plain _) _)⟩⟩, trivial⟩ (fun v_ mem_ hR => ?_); obtain ⟨fa_, fb_, fc_, fd_, rfl, rfl⟩ := hR; refine ⟨rfl, t2 (pt fa_ fb_) (pt fc_ fd_), fun _ => rfl, ?_⟩; conv => whnf)
    | (refine CallOK.useD (c_DrawNb_L hz hb hn) [0] rfl rfl rfl ⟨⟨⟨_, rfl, .lit (away_conc (bl_plain _) _).symm (fun _ h_ => by cases h_) (away_ok (bl_plain _) _)⟩⟩, trivial⟩ (fun v_ mem_ hR => ?_); obtain ⟨na_, nb_, nc_, nd_, rfl, rfl⟩ := hR; refine ⟨rfl, t2 (pt na_ nb_) (pt nc_ nd_), fun _ => rfl, ?_⟩; conv => whnf)
    | (refine CallOK.useD (c_DrawAp_L hz hb hn) [0] rfl rfl rfl ⟨⟨⟨_, rfl, .lit (away_conc (bl_plain _) _).symm (fun _ h_ => by cases h_) (away_ok (bl_plain _) _)⟩⟩, trivial⟩ (fun v_ mem_ hR => ?_); obtain ⟨m1_, m2_, m3_, m4_, x_, y_, rfl, rfl⟩ := hR; refine ⟨rfl, t2 (q4 m1_ m2_ m3_ m4_) (pt x_ y_), fun _ => rfl, ?_⟩; conv => whnf)
    | (refine CallOK.useR (c_impl_GeodesicOf_good hE_) [] rfl rfl rfl trivial (fun v_ mem_ hR => ?_); obtain ⟨n1_, k1_, s1_, hr1_, hn1_, rfl, rfl⟩ := hR; refine ⟨rfl, ?_⟩; conv => whnf)
    | (refine CallOK.useR (c_spec_GeodesicOf_good hE_) [] rfl rfl rfl trivial (fun v_ mem_ hR => ?_); obtain ⟨n2_, k2_, s2_, hr2_, hn2_, rfl, rfl⟩ := hR; refine ⟨rfl, ?_⟩; conv => whnf)
    | (refine CallOK.useR (c_impl_GeodesicOf_bad hE_) [] rfl rfl rfl trivial (fun v_ mem_ hR => ?_); obtain ⟨rfl, rfl⟩ := hR; refine ⟨rfl, ?_⟩; conv => whnf)
    | (refine CallOK.useR (c_spec_GeodesicOf_bad hE_) [] rfl rfl rfl trivial (fun v_ mem_ hR => ?_); obtain ⟨rfl, rfl⟩ := hR; refine ⟨rfl, ?_⟩; conv => whnf)
    | (refine CallOK.useR (c_points5 hr1_ hr2_ (by omega)) [_, _] rfl rfl rfl ⟨⟨⟨_, rfl, .plain rfl (fun _ h_ => by first | exact h_ | cases h_) (Row.all hr1_)⟩⟩, ⟨⟨_, rfl, .plain rfl (fun _ h_ => by first | exact h_ | cases h_) (Row.all hr2_)⟩⟩, trivial⟩ (fun v_ mem_ hR => ?_); obtain ⟨rfl, rfl⟩ := hR; refine ⟨rfl, ?_⟩; conv => whnf)
    | (refine (c_points5_nil).call ?_; conv => whnf)
    | (refine (c_points5_nil).quiet ?_; conv => whnf)
    | (refine (c_impl_FareyDistance_good hE_).call ?_; conv => whnf)
    | (refine (c_impl_FareyDistance_good hE_).quiet ?_; conv => whnf)
    | (refine (c_impl_FareyDistance_all _ _ _ _).call ?_; conv => whnf)
    | (refine (c_impl_FareyDistance_all _ _ _ _).quiet ?_; conv => whnf)
    | (refine (c_spec_FareyDistance_all _ _ _ _).call ?_; conv => whnf)
    | (refine (c_spec_FareyDistance_all _ _ _ _).quiet ?_; conv => whnf)
    | (refine (c_impl_Apply_m (fdE_mov hE_).1.fa).call ?_; conv => whnf)
    | (refine (c_impl_Apply_m (fdE_mov hE_).1.fa).quiet ?_; conv => whnf)
    | (refine (c_impl_Apply_m (fdE_mov hE_).1.fc).call ?_; conv => whnf)
    | (refine (c_impl_Apply_m (fdE_mov hE_).1.fc).quiet ?_; conv => whnf)
    | (refine (c_impl_AreNeighbours).call ?_; conv => whnf)
    | (refine (c_impl_AreNeighbours).quiet ?_; conv => whnf)
    | (refine (c_spec_AreNeighbours).call ?_; conv => whnf)
    | (refine (c_spec_AreNeighbours).quiet ?_; conv => whnf)
    | (refine (c_impl_ApplyToFraction).call ?_; conv => whnf)
    | (refine (c_impl_ApplyToFraction).quiet ?_; conv => whnf)
    | (refine (c_spec_ApplyToFraction).call ?_; conv => whnf)
    | (refine (c_spec_ApplyToFraction).quiet ?_; conv => whnf)
    | (show OutK _ _ _ _; exact out_forget [] ⟨rfl, rfl⟩ rfl (okB2_spec rfl) ⟨⟨⟨_, rfl, .lit (away_conc (bl_plain _) _).symm rfl (away_ok (bl_plain _) _)⟩⟩, trivial⟩ rfl rfl)
    | (refine br_true ?_ ?_; (focus (simp; done)); conv => whnf)
    | (refine br_false ?_ ?_; (focus (simp; done)); conv => whnf)
    | (refine br_false (decide_eq_false (by omega)) ?_; conv => whnf)
    | (refine draw_call (by decide +kernel) ?_; conv => whnf)
    | (show OutK _ _ _ _; exact out_forget [] ⟨rfl, rfl⟩ rfl (okB2_spec rfl) ⟨⟨⟨_, rfl, .lit (away_conc (bl_plain _) _).symm rfl (away_ok (bl_plain _) _)⟩⟩, trivial⟩ rfl rfl)
    | (refine StoreK.mk rfl ?_; conv => whnf)
    | exact join_same
    | exact (by assumption : (_ : Bool) = (_ : Bool))
    | (refine br_true (by assumption) ?_; conv => whnf)
    | (refine br_false (by assumption) ?_; conv => whnf)
    | (refine br_not ?_; conv => whnf)
    | (refine br_code ?_; conv => whnf)
    | (with_reducible refine br_and ?_; conv => whnf)
    | (with_reducible refine br_or ?_; conv => whnf)
    | (refine br_eq2 ?_; conv => whnf)
    | (refine draw_auto (by decide +kernel) ?_; conv => whnf)
    | (refine draw_asg (by decide +kernel) ?_; conv => whnf)
    | (refine draw_st (by decide +kernel) ?_; conv => whnf)
    | (refine draw_call (by decide +kernel) ?_; conv => whnf)
    | (refine next_same ?_; conv => whnf)
    | (refine mapK_row (by assumption) ?_; conv => whnf)
    | (refine mapK_plain (Plain.of rfl) ?_; conv => whnf)
    | (refine mapK_lit ?_; conv => whnf)
    | (refine br_split (fun _ => ?_) (fun _ => ?_) <;> conv => whnf)
    | exact (rfl : (_ : Value) = _)
    | (simp only [*]; exact (rfl : (_ : Value) = _))
    | (simp [*]; done))

end Go.Proofs.Ytnjepaboecijcaa
end

section
/-
  Contracts of functions of the program (printed by a program of this work; Lean checks each).
  Conditions: as each contract states.
-/
namespace Go.Proofs.Ytnjepaboecijcaa
open Go.Ev Go.RowKit
set_option maxRecDepth 100000
set_option linter.unusedVariables false
set_option linter.unusedSimpArgs false

attribute [local irreducible] isPtF isFracF plusF detF turnX turnY mateX mateY movX movY levL gnx chn geoL apF nearF fdE fdV tmE tmX tmY faultF selF

set_option maxHeartbeats 16000000 in
theorem c_cut_FnGeodesics_N0   : evCut Try.prog tbl 0 7 (code10) [.slice none 0 0, undef, undef, undef, undef, undef, undef, undef, undef, undef, undef, undef, undef, undef, undef, undef, undef, undef, undef, undef, undef, undef, undef, undef, undef, undef, undef, undef, undef, undef, undef, undef, undef, undef, undef, undef, undef, undef, undef, undef, undef, undef, undef, undef, undef, undef, undef, undef, undef, undef, undef, undef, undef, undef, undef, undef, undef, undef, undef, undef, undef, undef, undef, undef, undef, undef, undef, undef, undef, undef, undef, undef, undef, undef, undef, undef, undef, undef, undef, undef, undef, undef, undef, undef, undef, undef, undef, undef, undef, undef, undef, undef, undef, undef, undef, undef, undef, undef, undef, undef, undef, undef, undef, undef, undef, undef, undef, undef, undef, undef, undef, undef, undef, undef, undef, undef, undef, undef, undef, undef, undef, undef, undef, undef, undef, undef, undef, undef, undef, undef, undef, undef, undef, undef, undef, undef, undef, undef, undef, undef, undef, undef, undef, undef, undef, undef, undef, undef, undef, undef, undef, undef, undef, undef, undef, undef, undef, undef, undef, undef, undef, undef, undef, undef, undef, undef, undef, undef, undef, undef, undef, undef, undef, undef, undef, undef, undef, undef, undef, undef, undef, undef, undef, undef, undef, undef, undef, undef, undef, undef, undef, undef, undef, undef, undef, undef, undef, undef, undef, undef, undef, undef, undef, undef, undef, undef, undef, undef, undef, undef, undef, undef, undef, undef, undef, undef, undef, undef, undef, undef, undef, undef, undef, undef, undef, undef, undef, undef, undef, undef, undef, undef, undef, undef, undef, undef, undef, undef, undef, undef, undef, undef, undef, undef, undef, undef, undef, undef, undef, undef, undef, undef, undef, undef, undef, undef, undef, undef, undef, undef, undef, undef, undef, undef, undef, undef, undef, undef, undef, undef, undef, undef, undef, undef, undef, undef, undef] [] (cutP tbl Try.f10.results.toList (OutK 0 (fun v m_ => v = bb true ∧ m_ = [])) 0 (fun tm mem => tm = [.slice none 0 0, wild, wild, wild, wild, wild, wild, wild, wild, wild, wild, wild, wild, wild, wild, wild, wild, wild, wild, wild, wild, wild, wild, wild, wild, wild, wild, wild, wild, wild, wild, wild, wild, wild, wild, wild, wild, wild, wild, wild, wild, wild, wild, wild, wild, wild, wild, wild, wild, wild, wild, wild, wild, wild, wild, wild, wild, wild, wild, wild, wild, wild, wild, wild, wild, wild, wild, wild, wild, wild, wild, wild, wild, wild, wild, wild, wild, wild, wild, wild, wild, wild, wild, wild, wild, wild, wild, wild, wild, wild, wild, wild, wild, wild, wild, wild, wild, wild, wild, wild, wild, wild, wild, wild, wild, wild, wild, wild, wild, wild, wild, wild, wild, wild, wild, wild, wild, wild, wild, wild, wild, wild, wild, wild, wild, wild, wild, wild, wild, wild, wild, wild, wild, wild, wild, wild, wild, wild, wild, wild, wild, wild, wild, wild, wild, wild, wild, wild, wild, wild, wild, wild, wild, wild, wild, wild, wild, wild, wild, wild, wild, wild, wild, wild, wild, wild, wild, wild, wild, wild, wild, wild, wild, wild, wild, wild, wild, wild, wild, wild, wild, wild, wild, wild, wild, wild, wild, wild, wild, wild, wild, wild, wild, wild, wild, wild, wild, wild, wild, wild, wild, wild, wild, wild, wild, wild, wild, wild, wild, wild, wild, wild, wild, wild, wild, wild, wild, wild, wild, wild, wild, wild, wild, wild, wild, wild, wild, wild, wild, wild, wild, wild, wild, wild, wild, wild, wild, wild, wild, wild, wild, wild, wild, wild, wild, wild, wild, wild, wild, wild, wild, wild, wild, wild, wild, wild, wild, wild, wild, wild, wild, wild, wild, wild, wild, wild, wild, wild, wild, wild, wild, wild, wild, wild, wild, wild, wild] ∧ mem = [])) := by
  
  conv => whnf
  all_goals (repeat' first
    | (show NextK _ _ _ _; exact next_forget [] ⟨rfl, rfl⟩ (tmR_rfl rfl rfl) trivial rfl rfl)
    | (refine CallOK.useR c_big_N [] rfl rfl rfl trivial (fun v_ mem_ hR => ?_); obtain ⟨rfl, rfl⟩ := hR; refine ⟨rfl, ?_⟩; conv => whnf)
    | (refine br_false (b := decide (((0 : Nat) : Int) > 4096)) (decide_eq_false ?_) ?_; (focus omega); conv => whnf)
    | (refine enter_forget [0, 1, 2] (loop_rec (fun (s : Int) => match s with | i => [.slice none 0 0, wild, wild, .pointer (some ⟨0, 0, none⟩), .pointer (some ⟨1, 0, none⟩), .slice (some ⟨2, 0, none⟩) n1_ k1_, wild, wild, wild, ii (fdV ga_ gb_ gc_ gd_), wild, ii i, wild, wild, wild, wild, wild, wild, wild, wild, wild, wild, wild, wild, wild, wild, wild, wild, wild, wild, wild, wild, wild, wild, wild, wild, wild, wild, wild, wild, wild, wild, wild, wild, wild, wild, wild, wild, wild, wild, wild, wild, wild, wild, wild, wild, wild, wild, wild, wild, wild, wild, wild, wild, wild, wild, wild, wild, wild, wild, wild, wild, wild, wild, wild, wild, wild, wild, wild, wild, wild, wild, wild, wild, wild, wild, wild, wild, wild, wild, wild, wild, wild, wild, wild, wild, wild, wild, wild, wild, wild, wild, wild, wild, wild, wild, wild, wild, wild, wild, wild, wild, wild, wild, wild, wild, wild, wild, wild, wild, wild, wild, wild, wild, wild, wild, wild, wild, wild, wild, wild, wild, wild, wild, wild, wild, wild, wild, wild, wild, wild, wild, wild, wild, wild, wild, wild, wild, wild, wild, wild, wild, wild, wild, wild, wild, wild, wild, wild, wild, wild, wild, wild, wild, wild, wild, wild, wild, wild, wild, wild, wild, wild, wild, wild, wild, wild, wild, wild, wild, wild, wild, wild, wild, wild, wild, wild, wild, wild, wild, wild, wild, wild, wild, wild, wild, wild, wild, wild, wild, wild, wild, wild, wild, wild, wild, wild, wild, wild, wild, wild, wild, wild, wild, wild, wild, wild, wild, wild, wild, wild, wild, wild, wild, wild, wild, wild, wild, wild, wild, wild, wild, wild, wild, wild, wild, wild, wild, wild, wild, wild, wild, wild, wild, wild, wild, wild, wild, wild, wild, wild, wild, wild, wild, wild, wild, wild, wild, wild, wild, wild, wild, wild, wild, wild, wild, wild, wild, wild, wild, wild, wild, wild, wild, wild, wild, wild]) (fun (s : Int) => match s with | i => [([ii ga_, ii gb_], some 23), ([ii gc_, ii gd_], some 23), (pl (geoL ga_ gb_ gc_ gd_) ++ s1_, some 23)]) (fun (s : Int) => match s with | i => ((n1_ : Int) - i).toNat) (fun (s : Int) => match s with | i => 1 ≤ i ∧ i ≤ (n1_ : Int)) (1) (by have := (geo_pos (fdE_mov hE_).1 (fdE_mov hE_).2.1); have := row_pl hr1_; omega) ?_) (tmR_rfl rfl rfl) ⟨⟨⟨_, rfl, .plain rfl rfl (by first | exact Plain.of rfl | exact Row.all (by assumption))⟩⟩, ⟨⟨_, rfl, .plain rfl rfl (by first | exact Plain.of rfl | exact Row.all (by assumption))⟩⟩, ⟨⟨_, rfl, .plain rfl rfl (Row.all hr1_)⟩⟩, trivial⟩ rfl rfl; rintro fuel_ i hI IH; replace hI : 1 ≤ i ∧ i ≤ (n1_ : Int) := hI; conv => whnf)
    | exact next_forget [0, 1, 2] (IH (w64 (i + 1)) (geo_lp hr1_ hn1_ hI (by assumption)).2.2.2.2.1 (geo_lp hr1_ hn1_ hI (by assumption)).2.2.2.2.2.1) (tmR_rfl rfl rfl) ⟨⟨⟨_, rfl, .plain rfl rfl (by first | exact Plain.of rfl | exact Row.all (by assumption))⟩⟩, ⟨⟨_, rfl, .plain rfl rfl (by first | exact Plain.of rfl | exact Row.all (by assumption))⟩⟩, ⟨⟨_, rfl, .plain rfl rfl (Row.all hr1_)⟩⟩, trivial⟩ rfl rfl
    | (refine force_eq (take_pt (i := (w64 ((n1_ : Int) - 1)).toNat) (Nat.zero_add _) (geo_ix hE_ hr1_ hn1_).2.1) ?_; conv => whnf)
    | (refine force_eq (take_pt (i := (w64 (i - 1)).toNat) (Nat.zero_add _) (geo_lp hr1_ hn1_ hI (by assumption)).2.1) ?_; conv => whnf)
    | (refine force_eq (take_pt (i := i.toNat) (Nat.zero_add _) (geo_lp hr1_ hn1_ hI (by assumption)).2.2.1) ?_; conv => whnf)
    | (refine force_eq (take_pt (i := 0) (Nat.zero_add _) (geo_pos (fdE_mov hE_).1 (fdE_mov hE_).2.1)) ?_; conv => whnf)
    | (refine br_true (geo_ln hE_ hr1_) ?_; conv => whnf)
    | (refine br_true (geo_h1 hE_) ?_; conv => whnf)
    | (refine br_true (geo_h2 hE_) ?_; conv => whnf)
    | (refine br_true (geo_l1 hE_ hr1_ hn1_) ?_; conv => whnf)
    | (refine br_true (geo_l2 hE_ hr1_ hn1_) ?_; conv => whnf)
    | (refine br_in (geo_ix hE_ hr1_ hn1_).1.1 (geo_ix hE_ hr1_ hn1_).1.2 ?_; conv => whnf)
    | (refine br_in (geo_lp hr1_ hn1_ hI (by assumption)).1.1 (geo_lp hr1_ hn1_ hI (by assumption)).1.2 ?_; conv => whnf)
    | (refine br_in (geo_lp hr1_ hn1_ hI (by assumption)).2.2.2.2.2.2.1 (geo_lp hr1_ hn1_ hI (by assumption)).2.2.2.2.2.2.2 ?_; conv => whnf)
    | (refine br_in (by omega) (by have q1_ := geo_pos (fdE_mov hE_).1 (fdE_mov hE_).2.1; have q2_ := row_pl hr1_; omega) ?_; conv => whnf)
    | (refine (geo_nb hE_ hr1_ hn1_ hI (by assumption)).call ?_; conv => whnf)
    | (refine (geo_nb hE_ hr1_ hn1_ hI (by assumption)).quiet ?_; conv => whnf)
    | (refine br_true (decide_eq_true (fd_sym hE_ (of_decide_eq_true (show decide (fdE gc_ gd_ ga_ gb_ = 0) = true by assumption)))) ?_; conv => whnf)
    | (refine br_true (decide_eq_true (fd_m hE_ (of_decide_eq_true (show decide (tmE ga_ gb_ = 0) = true by assumption)) (of_decide_eq_true (show decide (tmE gc_ gd_ = 0) = true by assumption)) (of_decide_eq_true (show decide (fdE (tmX ga_ gb_) (tmY ga_ gb_) (tmX gc_ gd_) (tmY gc_ gd_) = 0) = true by assumption)))) ?_; conv => whnf)
    | (refine (c_near_one (of_decide_eq_true (show decide (fdE fa_ fb_ fc_ fd_ = 0) = true by assumption)) (fun h_ => of_decide_eq_false (show decide (fa_ = fc_) = false by assumption) h_.1)).call ?_; conv => whnf)
    | (refine (c_near_one (of_decide_eq_true (show decide (fdE fa_ fb_ fc_ fd_ = 0) = true by assumption)) (fun h_ => of_decide_eq_false (show decide (fa_ = fc_) = false by assumption) h_.1)).quiet ?_; conv => whnf)
    | (refine (c_near_one (of_decide_eq_true (show decide (fdE fa_ fb_ fc_ fd_ = 0) = true by assumption)) (fun h_ => of_decide_eq_false (show decide (fb_ = fd_) = false by assumption) h_.2)).call ?_; conv => whnf)
    | (refine (c_near_one (of_decide_eq_true (show decide (fdE fa_ fb_ fc_ fd_ = 0) = true by assumption)) (fun h_ => of_decide_eq_false (show decide (fb_ = fd_) = false by assumption) h_.2)).quiet ?_; conv => whnf)
    | (refine CallOK.useD (c_DrawGeo_N) [] rfl rfl rfl trivial (fun v_ mem_ hR => ?_); obtain ⟨ga_, gb_, gc_, gd_, rfl, rfl⟩ := hR; refine ⟨rfl, t2 (pt ga_ gb_) (pt gc_ gd_), fun _ => rfl, ?_⟩; rcases Classical.em (fdE ga_ gb_ gc_ gd_ = 0) with hE_ | hE_ <;> conv => whnf)
    | (refine CallOK.useD (c_DrawFd_N) [] rfl rfl rfl trivial (fun v_ mem_ hR => ?_); obtain ⟨fa_, fb_, fc_, fd_, rfl, rfl⟩ := hR; refine ⟨rfl, t2 (pt fa_ fb_) (pt fc_ fd_), fun _ => rfl, ?_⟩; conv => whnf)
    | (refine CallOK.useD (c_DrawNb_N) [] rfl rfl rfl trivial (fun v_ mem_ hR => ?_); obtain ⟨na_, nb_, nc_, nd_, rfl, rfl⟩ := hR; refine ⟨rfl, t2 (pt na_ nb_) (pt nc_ nd_), fun _ => rfl, ?_⟩; conv => whnf)
    | (refine CallOK.useD (c_DrawAp_N) [] rfl rfl rfl trivial (fun v_ mem_ hR => ?_); obtain ⟨m1_, m2_, m3_, m4_, x_, y_, rfl, rfl⟩ := hR; refine ⟨rfl, t2 (q4 m1_ m2_ m3_ m4_) (pt x_ y_), fun _ => rfl, ?_⟩; conv => whnf)
    | (refine CallOK.useR (c_impl_GeodesicOf_good hE_) [] rfl rfl rfl trivial (fun v_ mem_ hR => ?_); obtain ⟨n1_, k1_, s1_, hr1_, hn1_, rfl, rfl⟩ := hR; refine ⟨rfl, ?_⟩; conv => whnf)
    | (refine CallOK.useR (c_spec_GeodesicOf_good hE_) [] rfl rfl rfl trivial (fun v_ mem_ hR => ?_); obtain ⟨n2_, k2_, s2_, hr2_, hn2_, rfl, rfl⟩ := hR; refine ⟨rfl, ?_⟩; conv => whnf)
    | (refine CallOK.useR (c_impl_GeodesicOf_bad hE_) [] rfl rfl rfl trivial (fun v_ mem_ hR => ?_); obtain ⟨rfl, rfl⟩ := hR; refine ⟨rfl, ?_⟩; conv => whnf)
    | (refine CallOK.useR (c_spec_GeodesicOf_bad hE_) [] rfl rfl rfl trivial (fun v_ mem_ hR => ?_); obtain ⟨rfl, rfl⟩ := hR; refine ⟨rfl, ?_⟩; conv => whnf)
    | (refine CallOK.useR (c_points5 hr1_ hr2_ (by omega)) [_, _] rfl rfl rfl ⟨⟨⟨_, rfl, .plain rfl (fun _ h_ => by first | exact h_ | cases h_) (Row.all hr1_)⟩⟩, ⟨⟨_, rfl, .plain rfl (fun _ h_ => by first | exact h_ | cases h_) (Row.all hr2_)⟩⟩, trivial⟩ (fun v_ mem_ hR => ?_); obtain ⟨rfl, rfl⟩ := hR; refine ⟨rfl, ?_⟩; conv => whnf)
    | (refine (c_points5_nil).call ?_; conv => whnf)
    | (refine (c_points5_nil).quiet ?_; conv => whnf)
    | (refine (c_impl_FareyDistance_good hE_).call ?_; conv => whnf)
    | (refine (c_impl_FareyDistance_good hE_).quiet ?_; conv => whnf)
    | (refine (c_impl_FareyDistance_all _ _ _ _).call ?_; conv => whnf)
    | (refine (c_impl_FareyDistance_all _ _ _ _).quiet ?_; conv => whnf)
    | (refine (c_spec_FareyDistance_all _ _ _ _).call ?_; conv => whnf)
    | (refine (c_spec_FareyDistance_all _ _ _ _).quiet ?_; conv => whnf)
    | (refine (c_impl_Apply_m (fdE_mov hE_).1.fa).call ?_; conv => whnf)
    | (refine (c_impl_Apply_m (fdE_mov hE_).1.fa).quiet ?_; conv => whnf)
    | (refine (c_impl_Apply_m (fdE_mov hE_).1.fc).call ?_; conv => whnf)
    | (refine (c_impl_Apply_m (fdE_mov hE_).1.fc).quiet ?_; conv => whnf)
    | (refine (c_impl_AreNeighbours).call ?_; conv => whnf)
    | (refine (c_impl_AreNeighbours).quiet ?_; conv => whnf)
    | (refine (c_spec_AreNeighbours).call ?_; conv => whnf)
    | (refine (c_spec_AreNeighbours).quiet ?_; conv => whnf)
    | (refine (c_impl_ApplyToFraction).call ?_; conv => whnf)
    | (refine (c_impl_ApplyToFraction).quiet ?_; conv => whnf)
    | (refine (c_spec_ApplyToFraction).call ?_; conv => whnf)
    | (refine (c_spec_ApplyToFraction).quiet ?_; conv => whnf)
    | (show OutK _ _ _ _; exact out_forget [] ⟨rfl, rfl⟩ rfl (okB2_spec rfl) trivial rfl rfl)
    | (refine br_true ?_ ?_; (focus (simp; done)); conv => whnf)
    | (refine br_false ?_ ?_; (focus (simp; done)); conv => whnf)
    | (refine br_false (decide_eq_false (by omega)) ?_; conv => whnf)
    | (refine draw_call (by decide +kernel) ?_; conv => whnf)
    | (show OutK _ _ _ _; exact out_forget [] ⟨rfl, rfl⟩ rfl (okB2_spec rfl) trivial rfl rfl)
    | (refine StoreK.mk rfl ?_; conv => whnf)
    | exact join_same
    | exact (by assumption : (_ : Bool) = (_ : Bool))
    | (refine br_true (by assumption) ?_; conv => whnf)
    | (refine br_false (by assumption) ?_; conv => whnf)
    | (refine br_not ?_; conv => whnf)
    | (refine br_code ?_; conv => whnf)
    | (with_reducible refine br_and ?_; conv => whnf)
    | (with_reducible refine br_or ?_; conv => whnf)
    | (refine br_eq2 ?_; conv => whnf)
    | (refine draw_auto (by decide +kernel) ?_; conv => whnf)
    | (refine draw_asg (by decide +kernel) ?_; conv => whnf)
    | (refine draw_st (by decide +kernel) ?_; conv => whnf)
    | (refine draw_call (by decide +kernel) ?_; conv => whnf)
    | (refine next_same ?_; conv => whnf)
    | (refine mapK_row (by assumption) ?_; conv => whnf)
    | (refine mapK_plain (Plain.of rfl) ?_; conv => whnf)
    | (refine mapK_lit ?_; conv => whnf)
    | (refine br_split (fun _ => ?_) (fun _ => ?_) <;> conv => whnf)
    | exact (rfl : (_ : Value) = _)
    | (simp only [*]; exact (rfl : (_ : Value) = _))
    | (simp [*]; done))

end Go.Proofs.Ytnjepaboecijcaa
end

section
/-
  Contracts of functions of the program (printed by a program of this work; Lean checks each).
  Conditions: as each contract states.
-/
namespace Go.Proofs.Ytnjepaboecijcaa
open Go.Ev Go.RowKit
set_option maxRecDepth 100000
set_option linter.unusedVariables false
set_option linter.unusedSimpArgs false

attribute [local irreducible] isPtF isFracF plusF detF turnX turnY mateX mateY movX movY levL gnx chn geoL apF nearF fdE fdV tmE tmX tmY faultF selF

set_option maxHeartbeats 16000000 in
theorem c_cut_FnGeodesics_N1   : ev Try.prog tbl 0 (tlC 7 (code10)) [.slice none 0 0, wild, wild, wild, wild, wild, wild, wild, wild, wild, wild, wild, wild, wild, wild, wild, wild, wild, wild, wild, wild, wild, wild, wild, wild, wild, wild, wild, wild, wild, wild, wild, wild, wild, wild, wild, wild, wild, wild, wild, wild, wild, wild, wild, wild, wild, wild, wild, wild, wild, wild, wild, wild, wild, wild, wild, wild, wild, wild, wild, wild, wild, wild, wild, wild, wild, wild, wild, wild, wild, wild, wild, wild, wild, wild, wild, wild, wild, wild, wild, wild, wild, wild, wild, wild, wild, wild, wild, wild, wild, wild, wild, wild, wild, wild, wild, wild, wild, wild, wild, wild, wild, wild, wild, wild, wild, wild, wild, wild, wild, wild, wild, wild, wild, wild, wild, wild, wild, wild, wild, wild, wild, wild, wild, wild, wild, wild, wild, wild, wild, wild, wild, wild, wild, wild, wild, wild, wild, wild, wild, wild, wild, wild, wild, wild, wild, wild, wild, wild, wild, wild, wild, wild, wild, wild, wild, wild, wild, wild, wild, wild, wild, wild, wild, wild, wild, wild, wild, wild, wild, wild, wild, wild, wild, wild, wild, wild, wild, wild, wild, wild, wild, wild, wild, wild, wild, wild, wild, wild, wild, wild, wild, wild, wild, wild, wild, wild, wild, wild, wild, wild, wild, wild, wild, wild, wild, wild, wild, wild, wild, wild, wild, wild, wild, wild, wild, wild, wild, wild, wild, wild, wild, wild, wild, wild, wild, wild, wild, wild, wild, wild, wild, wild, wild, wild, wild, wild, wild, wild, wild, wild, wild, wild, wild, wild, wild, wild, wild, wild, wild, wild, wild, wild, wild, wild, wild, wild, wild, wild, wild, wild, wild, wild, wild, wild, wild, wild, wild, wild, wild, wild, wild, wild, wild, wild, wild, wild] [] (finP tbl Try.f10.results.toList (OutK 0 (fun v m_ => v = bb true ∧ m_ = []))) := by
  
  conv => whnf
  all_goals (repeat' first
    | (show NextK _ _ _ _; exact next_forget [] ⟨rfl, rfl⟩ (tmR_rfl rfl rfl) trivial rfl rfl)
    | (refine CallOK.useR c_big_N [] rfl rfl rfl trivial (fun v_ mem_ hR => ?_); obtain ⟨rfl, rfl⟩ := hR; refine ⟨rfl, ?_⟩; conv => whnf)
    | (refine br_false (b := decide (((0 : Nat) : Int) > 4096)) (decide_eq_false ?_) ?_; (focus omega); conv => whnf)
    | (refine enter_forget [0, 1, 2] (loop_rec (fun (s : Int) => match s with | i => [.slice none 0 0, wild, wild, .pointer (some ⟨0, 0, none⟩), .pointer (some ⟨1, 0, none⟩), .slice (some ⟨2, 0, none⟩) n1_ k1_, wild, wild, wild, ii (fdV ga_ gb_ gc_ gd_), wild, ii i, wild, wild, wild, wild, wild, wild, wild, wild, wild, wild, wild, wild, wild, wild, wild, wild, wild, wild, wild, wild, wild, wild, wild, wild, wild, wild, wild, wild, wild, wild, wild, wild, wild, wild, wild, wild, wild, wild, wild, wild, wild, wild, wild, wild, wild, wild, wild, wild, wild, wild, wild, wild, wild, wild, wild, wild, wild, wild, wild, wild, wild, wild, wild, wild, wild, wild, wild, wild, wild, wild, wild, wild, wild, wild, wild, wild, wild, wild, wild, wild, wild, wild, wild, wild, wild, wild, wild, wild, wild, wild, wild, wild, wild, wild, wild, wild, wild, wild, wild, wild, wild, wild, wild, wild, wild, wild, wild, wild, wild, wild, wild, wild, wild, wild, wild, wild, wild, wild, wild, wild, wild, wild, wild, wild, wild, wild, wild, wild, wild, wild, wild, wild, wild, wild, wild, wild, wild, wild, wild, wild, wild, wild, wild, wild, wild, wild, wild, wild, wild, wild, wild, wild, wild, wild, wild, wild, wild, wild, wild, wild, wild, wild, wild, wild, wild, wild, wild, wild, wild, wild, wild, wild, wild, wild, wild, wild, wild, wild, wild, wild, wild, wild, wild, wild, wild, wild, wild, wild, wild, wild, wild, wild, wild, wild, wild, wild, wild, wild, wild, wild, wild, wild, wild, wild, wild, wild, wild, wild, wild, wild, wild, wild, wild, wild, wild, wild, wild, wild, wild, wild, wild, wild, wild, wild, wild, wild, wild, wild, wild, wild, wild, wild, wild, wild, wild, wild, wild, wild, wild, wild, wild, wild, wild, wild, wild, wild, wild, wild, wild, wild, wild, wild, wild, wild, wild, wild, wild, wild, wild, wild, wild, wild, wild, wild, wild]) (fun (s : Int) => match s with | i => [([ii ga_, ii gb_], some 23), ([ii gc_, ii gd_], some 23), (pl (geoL ga_ gb_ gc_ gd_) ++ s1_, some 23)]) (fun (s : Int) => match s with | i => ((n1_ : Int) - i).toNat) (fun (s : Int) => match s with | i => 1 ≤ i ∧ i ≤ (n1_ : Int)) (1) (by have := (geo_pos (fdE_mov hE_).1 (fdE_mov hE_).2.1); have := row_pl hr1_; omega) ?_) (tmR_rfl rfl rfl) ⟨⟨⟨_, rfl, .plain rfl rfl (by first | exact Plain.of rfl | exact Row.all (by assumption))⟩⟩, ⟨⟨_, rfl, .plain rfl rfl (by first | exact Plain.of rfl | exact Row.all (by assumption))⟩⟩, ⟨⟨_, rfl, .plain rfl rfl (Row.all hr1_)⟩⟩, trivial⟩ rfl rfl; rintro fuel_ i hI IH; replace hI : 1 ≤ i ∧ i ≤ (n1_ : Int) := hI; conv => whnf)
    | exact next_forget [0, 1, 2] (IH (w64 (i + 1)) (geo_lp hr1_ hn1_ hI (by assumption)).2.2.2.2.1 (geo_lp hr1_ hn1_ hI (by assumption)).2.2.2.2.2.1) (tmR_rfl rfl rfl) ⟨⟨⟨_, rfl, .plain rfl rfl (by first | exact Plain.of rfl | exact Row.all (by assumption))⟩⟩, ⟨⟨_, rfl, .plain rfl rfl (by first | exact Plain.of rfl | exact Row.all (by assumption))⟩⟩, ⟨⟨_, rfl, .plain rfl rfl (Row.all hr1_)⟩⟩, trivial⟩ rfl rfl
    | (refine force_eq (take_pt (i := (w64 ((n1_ : Int) - 1)).toNat) (Nat.zero_add _) (geo_ix hE_ hr1_ hn1_).2.1) ?_; conv => whnf)
    | (refine force_eq (take_pt (i := (w64 (i - 1)).toNat) (Nat.zero_add _) (geo_lp hr1_ hn1_ hI (by assumption)).2.1) ?_; conv => whnf)
    | (refine force_eq (take_pt (i := i.toNat) (Nat.zero_add _) (geo_lp hr1_ hn1_ hI (by assumption)).2.2.1) ?_; conv => whnf)
    | (refine force_eq (take_pt (i := 0) (Nat.zero_add _) (geo_pos (fdE_mov hE_).1 (fdE_mov hE_).2.1)) ?_; conv => whnf)
    | (refine br_true (geo_ln hE_ hr1_) ?_; conv => whnf)
    | (refine br_true (geo_h1 hE_) ?_; conv => whnf)
    | (refine br_true (geo_h2 hE_) ?_; conv => whnf)
    | (refine br_true (geo_l1 hE_ hr1_ hn1_) ?_; conv => whnf)
    | (refine br_true (geo_l2 hE_ hr1_ hn1_) ?_; conv => whnf)
    | (refine br_in (geo_ix hE_ hr1_ hn1_).1.1 (geo_ix hE_ hr1_ hn1_).1.2 ?_; conv => whnf)
    | (refine br_in (geo_lp hr1_ hn1_ hI (by assumption)).1.1 (geo_lp hr1_ hn1_ hI (by assumption)).1.2 ?_; conv => whnf)
    | (refine br_in (geo_lp hr1_ hn1_ hI (by assumption)).2.2.2.2.2.2.1 (geo_lp hr1_ hn1_ hI (by assumption)).2.2.2.2.2.2.2 ?_; conv => whnf)
    | (refine br_in (by omega) (by have q1_ := geo_pos (fdE_mov hE_).1 (fdE_mov hE_).2.1; have q2_ := row_pl hr1_; omega) ?_; conv => whnf)
    | (refine (geo_nb hE_ hr1_ hn1_ hI (by assumption)).call ?_; conv => whnf)
    | (refine (geo_nb hE_ hr1_ hn1_ hI (by assumption)).quiet ?_; conv => whnf)
    | (refine br_true (decide_eq_true (fd_sym hE_ (of_decide_eq_true (show decide (fdE gc_ gd_ ga_ gb_ = 0) = true by assumption)))) ?_; conv => whnf)
    | (refine br_true (decide_eq_true (fd_m hE_ (of_decide_eq_true (show decide (tmE ga_ gb_ = 0) = true by assumption)) (of_decide_eq_true (show decide (tmE gc_ gd_ = 0) = true by assumption)) (of_decide_eq_true (show decide (fdE (tmX ga_ gb_) (tmY ga_ gb_) (tmX gc_ gd_) (tmY gc_ gd_) = 0) = true by assumption)))) ?_; conv => whnf)
    | (refine (c_near_one (of_decide_eq_true (show decide (fdE fa_ fb_ fc_ fd_ = 0) = true by assumption)) (fun h_ => of_decide_eq_false (show decide (fa_ = fc_) = false by assumption) h_.1)).call ?_; conv => whnf)
    | (refine (c_near_one (of_decide_eq_true (show decide (fdE fa_ fb_ fc_ fd_ = 0) = true by assumption)) (fun h_ => of_decide_eq_false (show decide (fa_ = fc_) = false by assumption) h_.1)).quiet ?_; conv => whnf)
    | (refine (c_near_one (of_decide_eq_true (show decide (fdE fa_ fb_ fc_ fd_ = 0) = true by assumption)) (fun h_ => of_decide_eq_false (show decide (fb_ = fd_) = false by assumption) h_.2)).call ?_; conv => whnf)
    | (refine (c_near_one (of_decide_eq_true (show decide (fdE fa_ fb_ fc_ fd_ = 0) = true by assumption)) (fun h_ => of_decide_eq_false (show decide (fb_ = fd_) = false by assumption) h_.2)).quiet ?_; conv => whnf)
    | (refine CallOK.useD (c_DrawGeo_N) [] rfl rfl rfl trivial (fun v_ mem_ hR => ?_); obtain ⟨ga_, gb_, gc_, gd_, rfl, rfl⟩ := hR; refine ⟨rfl, t2 (pt ga_ gb_) (pt gc_ gd_), fun _ => rfl, ?_⟩; rcases Classical.em (fdE ga_ gb_ gc_ gd_ = 0) with hE_ | hE_ <;> conv => whnf)
    | (refine CallOK.useD (c_DrawFd_N) [] rfl rfl rfl trivial (fun v_ mem_ hR => ?_); obtain ⟨fa_, fb_, fc_, fd_, rfl, rfl⟩ := hR; refine ⟨rfl, t2 (pt fa_ fb_) (pt fc_ fd_), fun _ => rfl, ?_⟩; conv => whnf)
    | (refine CallOK.useD (c_DrawNb_N) [] rfl rfl rfl trivial (fun v_ mem_ hR => ?_); obtain ⟨na_, nb_, nc_, nd_, rfl, rfl⟩ := hR; refine ⟨rfl, t2 (pt na_ nb_) (pt nc_ nd_), fun _ => rfl, ?_⟩; conv => whnf)
    | (refine CallOK.useD (c_DrawAp_N) [] rfl rfl rfl trivial (fun v_ mem_ hR => ?_); obtain ⟨m1_, m2_, m3_, m4_, x_, y_, rfl, rfl⟩ := hR; refine ⟨rfl, t2 (q4 m1_ m2_ m3_ m4_) (pt x_ y_), fun _ => rfl, ?_⟩; conv => whnf)
    | (refine CallOK.useR (c_impl_GeodesicOf_good hE_) [] rfl rfl rfl trivial (fun v_ mem_ hR => ?_); obtain ⟨n1_, k1_, s1_, hr1_, hn1_, rfl, rfl⟩ := hR; refine ⟨rfl, ?_⟩; conv => whnf)
    | (refine CallOK.useR (c_spec_GeodesicOf_good hE_) [] rfl rfl rfl trivial (fun v_ mem_ hR => ?_); obtain ⟨n2_, k2_, s2_, hr2_, hn2_, rfl, rfl⟩ := hR; refine ⟨rfl, ?_⟩; conv => whnf)
    | (refine CallOK.useR (c_impl_GeodesicOf_bad hE_) [] rfl rfl rfl trivial (fun v_ mem_ hR => ?_); obtain ⟨rfl, rfl⟩ := hR; refine ⟨rfl, ?_⟩; conv => whnf)
    | (refine CallOK.useR (c_spec_GeodesicOf_bad hE_) [] rfl rfl rfl trivial (fun v_ mem_ hR => ?_); obtain ⟨rfl, rfl⟩ := hR; refine ⟨rfl, ?_⟩; conv => whnf)
    | (refine CallOK.useR (c_points5 hr1_ hr2_ (by omega)) [_, _] rfl rfl rfl ⟨⟨⟨_, rfl, .plain rfl (fun _ h_ => by first | exact h_ | cases h_) (Row.all hr1_)⟩⟩, ⟨⟨_, rfl, .plain rfl (fun _ h_ => by first | exact h_ | cases h_) (Row.all hr2_)⟩⟩, trivial⟩ (fun v_ mem_ hR => ?_); obtain ⟨rfl, rfl⟩ := hR; refine ⟨rfl, ?_⟩; conv => whnf)
    | (refine (c_points5_nil).call ?_; conv => whnf)
    | (refine (c_points5_nil).quiet ?_; conv => whnf)
    | (refine (c_impl_FareyDistance_good hE_).call ?_; conv => whnf)
    | (refine (c_impl_FareyDistance_good hE_).quiet ?_; conv => whnf)
    | (refine (c_impl_FareyDistance_all _ _ _ _).call ?_; conv => whnf)
    | (refine (c_impl_FareyDistance_all _ _ _ _).quiet ?_; conv => whnf)
    | (refine (c_spec_FareyDistance_all _ _ _ _).call ?_; conv => whnf)
    | (refine (c_spec_FareyDistance_all _ _ _ _).quiet ?_; conv => whnf)
    | (refine (c_impl_Apply_m (fdE_mov hE_).1.fa).call ?_; conv => whnf)
    | (refine (c_impl_Apply_m (fdE_mov hE_).1.fa).quiet ?_; conv => whnf)
    | (refine (c_impl_Apply_m (fdE_mov hE_).1.fc).call ?_; conv => whnf)
    | (refine (c_impl_Apply_m (fdE_mov hE_).1.fc).quiet ?_; conv => whnf)
    | (refine (c_impl_AreNeighbours).call ?_; conv => whnf)
    | (refine (c_impl_AreNeighbours).quiet ?_; conv => whnf)
    | (refine (c_spec_AreNeighbours).call ?_; conv => whnf)
    | (refine (c_spec_AreNeighbours).quiet ?_; conv => whnf)
    | (refine (c_impl_ApplyToFraction).call ?_; conv => whnf)
    | (refine (c_impl_ApplyToFraction).quiet ?_; conv => whnf)
    | (refine (c_spec_ApplyToFraction).call ?_; conv => whnf)
    | (refine (c_spec_ApplyToFraction).quiet ?_; conv => whnf)
    | (show OutK _ _ _ _; exact out_forget [] ⟨rfl, rfl⟩ rfl (okB2_spec rfl) trivial rfl rfl)
    | (refine br_true ?_ ?_; (focus (simp; done)); conv => whnf)
    | (refine br_false ?_ ?_; (focus (simp; done)); conv => whnf)
    | (refine br_false (decide_eq_false (by omega)) ?_; conv => whnf)
    | (refine draw_call (by decide +kernel) ?_; conv => whnf)
    | (show OutK _ _ _ _; exact out_forget [] ⟨rfl, rfl⟩ rfl (okB2_spec rfl) trivial rfl rfl)
    | (refine StoreK.mk rfl ?_; conv => whnf)
    | exact join_same
    | exact (by assumption : (_ : Bool) = (_ : Bool))
    | (refine br_true (by assumption) ?_; conv => whnf)
    | (refine br_false (by assumption) ?_; conv => whnf)
    | (refine br_not ?_; conv => whnf)
    | (refine br_code ?_; conv => whnf)
    | (with_reducible refine br_and ?_; conv => whnf)
    | (with_reducible refine br_or ?_; conv => whnf)
    | (refine br_eq2 ?_; conv => whnf)
    | (refine draw_auto (by decide +kernel) ?_; conv => whnf)
    | (refine draw_asg (by decide +kernel) ?_; conv => whnf)
    | (refine draw_st (by decide +kernel) ?_; conv => whnf)
    | (refine draw_call (by decide +kernel) ?_; conv => whnf)
    | (refine next_same ?_; conv => whnf)
    | (refine mapK_row (by assumption) ?_; conv => whnf)
    | (refine mapK_plain (Plain.of rfl) ?_; conv => whnf)
    | (refine mapK_lit ?_; conv => whnf)
    | (refine br_split (fun _ => ?_) (fun _ => ?_) <;> conv => whnf)
    | exact (rfl : (_ : Value) = _)
    | (simp only [*]; exact (rfl : (_ : Value) = _))
    | (simp [*]; done))

end Go.Proofs.Ytnjepaboecijcaa
end
