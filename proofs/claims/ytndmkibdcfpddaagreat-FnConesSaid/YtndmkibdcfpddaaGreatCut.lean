/-
  A function's body, evaluated in parts: behind each part all but what is told is forgotten.
  Conditions: none.
-/
import Derived.Test.YtndmkibdcfpddaaGreatEvUse
set_option linter.unusedVariables false
set_option linter.unusedSimpArgs false
namespace Go.Ev
open Go.RowKit

noncomputable def evCut (P : Program) (T : Tbl) (m0 : Nat) (n : Nat) : Code → List Value → Mem → Post → Prop :=
  @Nat.rec (fun _ => Code → List Value → Mem → Post → Prop) (fun _ tm mem K => K .normal tm mem)
    (fun _ ih c tm mem K => match c with
      | .seq a b => ev P T m0 a tm mem fun e tm' mem' => match e with
        | .normal => ih b tm' mem' K
        | e => K e tm' mem'
      | _ => False) n
def tlC (n : Nat) : Code → Code :=
  @Nat.rec (fun _ => Code → Code) (fun c => c) (fun _ ih c => match c with
    | .seq _ b => ih b
    | c => c) n
theorem tlC_add : ∀ (n m : Nat) (c : Code), tlC m (tlC n c) = tlC (n + m) c
  | 0, m, c => by rw [Nat.zero_add]; rfl
  | n + 1, m, c => by
    rw [show n + 1 + m = n + m + 1 by omega]
    cases c with
    | seq a b => exact tlC_add n m b
    | _ => exact tlC_stop n m _ (fun a b h => by cases h)
where
  tlC_id : ∀ (m : Nat) (c : Code), (∀ a b, c ≠ .seq a b) → tlC m c = c
    | 0, c, _ => rfl
    | m + 1, c, h => by cases c with
      | seq a b => exact absurd rfl (h a b)
      | _ => rfl
  tlC_stop (n m : Nat) (c : Code) (h : ∀ a b, c ≠ .seq a b) : tlC m (tlC (n + 1) c) = tlC (n + m + 1) c := by
    rw [tlC_id (n + 1) c h, tlC_id m c h, tlC_id _ c h]
theorem evCut_sound {P : Program} {T : Tbl} (hT : T.Ok P) (hmix : P.follows .mixedOrders = true) {w0 : Base} {m0 : Nat} {ρ0 : List Nat} (hρ : ρ0.length = m0) : ∀ (n : Nat) (c : Code) {tm : List Value} {mem : Mem} {K : Post}, evCut P T m0 n c tm mem K →
    ∀ {σ : List Nat} {w : World} {a : Act}, TmAt (ρ0 ++ σ) tm a → MemAt w0 (ρ0 ++ σ) mem w → ∀ {Q : Exit → Act → World → Prop},
    (∀ σ tm' mem' a' w', K .normal tm' mem' → TmAt (ρ0 ++ σ) tm' a' → MemAt w0 (ρ0 ++ σ) mem' w' → (tlC n c).wp P Q a' w') →
    (∀ e σ tm' mem' a' w', e ≠ .normal → K e tm' mem' → TmAt (ρ0 ++ σ) tm' a' → MemAt w0 (ρ0 ++ σ) mem' w' → Q e a' w') → c.wp P Q a w
  | 0, c, tm, mem, K, h, σ, w, a, ha, hm, Q, hN, hQ => hN σ tm mem a w h ha hm
  | n + 1, .seq x y, tm, mem, K, h, σ, w, a, ha, hm, Q, hN, hQ => by
    have h : ev P T m0 x tm mem fun e tm' mem' => match e with
        | .normal => evCut P T m0 n y tm' mem' K
        | e => K e tm' mem' := h
    refine wp_seq (ev_sound hT hmix hρ x h ha hm fun e σ' tm' mem' a' w' hk ha' hm' => ?_)
    cases e with
    | normal => exact evCut_sound hT hmix hρ n y hk ha' hm' hN hQ
    | _ => exact hQ _ σ' _ _ _ _ (by intro h; cases h) hk ha' hm'
  | n + 1, .skip, _, _, _, h, _, _, _, _, _, _, _, _ => (h : False).elim
  | n + 1, .region _ _ _, _, _, _, h, _, _, _, _, _, _, _, _ => (h : False).elim
  | n + 1, .cond _ _ _, _, _, _, h, _, _, _, _, _, _, _, _ => (h : False).elim
  | n + 1, .block _ _, _, _, _, h, _, _, _, _, _, _, _, _ => (h : False).elim
  | n + 1, .loop _, _, _, _, h, _, _, _, _, _, _, _, _ => (h : False).elim
  | n + 1, .rangeFunc _ _ _ _, _, _, _, h, _, _, _, _, _, _, _, _ => (h : False).elim
  | n + 1, .exit _, _, _, _, h, _, _, _, _, _, _, _, _ => (h : False).elim
  | n + 1, .goto _, _, _, _, h, _, _, _, _, _, _, _, _ => (h : False).elim
  | n + 1, .label _, _, _, _, h, _, _, _, _, _, _, _, _ => (h : False).elim
  | n + 1, .ret, _, _, _, h, _, _, _, _, _, _, _, _ => (h : False).elim

def cutP (T : Tbl) (rs : List ResultVar) (K : Value → Mem → Prop) (m0 : Nat) (L : List Value → Mem → Prop) : Post := fun e tm mem => match e with
  | .normal => NextK m0 L tm mem
  | e => finP T rs K e tm mem
structure RunsOK (P : Program) (fn : Func) (m0 : Nat) (K : Value → Mem → Prop) (c : Code) (tm : List Value) (mem : Mem) : Prop where
  go : ∀ {w0 : Base} {ρ0 σ : List Nat} {w : World} {a : Act}, ρ0.length = m0 → TmAt (ρ0 ++ σ) tm a → MemAt w0 (ρ0 ++ σ) mem w →
    c.wp P (bodyPost P fn fun e w' => ∃ v mem' σ, e = .returned (conc (ρ0 ++ σ) v) ∧ ok2 (ρ0 ++ σ).length v ∧ MemAt w0 (ρ0 ++ σ) mem' w' ∧ K v mem') a w

section
variable {P : Program} {T : Tbl} {fn : Func} {m0 : Nat} {K : Value → Mem → Prop} {c : Code} {tm : List Value} {mem : Mem}
theorem fin_post (hT : T.Ok P) {w0 : Base} {ρ0 : List Nat} {e : Exit} {σ : List Nat} {tm' : List Value} {mem' : Mem} {a' : Act} {w' : World} (hk : finP T fn.results.toList K e tm' mem') (ha' : TmAt (ρ0 ++ σ) tm' a') (hm' : MemAt w0 (ρ0 ++ σ) mem' w') :
    bodyPost P fn (fun e w' => ∃ v mem' σ, e = .returned (conc (ρ0 ++ σ) v) ∧ ok2 (ρ0 ++ σ).length v ∧ MemAt w0 (ρ0 ++ σ) mem' w' ∧ K v mem') e a' w' := by
  cases e with
  | normal =>
    obtain ⟨v, hk, hs⟩ := outK_sound hT hk
    obtain ⟨h1, h2⟩ := hs w0 _ w' a' ha' hm'
    exact ⟨ha'.defers, _, h2, v, mem', σ, rfl, h1, hm', hk⟩
  | ret =>
    obtain ⟨v, hk, hs⟩ := outK_sound hT hk
    obtain ⟨h1, h2⟩ := hs w0 _ w' a' ha' hm'
    exact ⟨ha'.defers, _, h2, v, mem', σ, rfl, h1, hm', hk⟩
  | _ => exact hk.elim
theorem runs_ev (g : EvGood P T) (h : ev P T m0 c tm mem (finP T fn.results.toList K)) : RunsOK P fn m0 K c tm mem :=
  ⟨fun hρ ha hm => ev_sound g.tbl g.mix hρ c h ha hm fun e σ tm' mem' a' w' hk ha' hm' => fin_post g.tbl hk ha' hm'⟩
theorem runs_cut (g : EvGood P T) {L : List Value → Mem → Prop} (n : Nat) (h : evCut P T m0 n c tm mem (cutP T fn.results.toList K m0 L)) (hr : ∀ tm mem, L tm mem → RunsOK P fn m0 K (tlC n c) tm mem) : RunsOK P fn m0 K c tm mem :=
  ⟨fun hρ ha hm => evCut_sound g.tbl g.mix hρ n c h ha hm
    (fun σ tm' mem' a' w' hk ha' hm' => by
      rcases (show NextK m0 L tm' mem' from hk).or with h | ⟨κ, tm2, mem2, hf, h⟩
      · exact (hr _ _ h).go hρ ha' hm'
      · obtain ⟨σ2, ha2, hm2⟩ := hf.sound hρ ha' hm'
        exact (hr _ _ h).go hρ ha2 hm2)
    (fun e σ tm' mem' a' w' hne hk ha' hm' => by
      have hk : finP T fn.results.toList K e tm' mem' := by
        cases e with
        | normal => exact absurd rfl hne
        | _ => exact hk
      exact fin_post g.tbl hk ha' hm')⟩
theorem runs_fn (g : EvGood P T) {f : Nat} {code : Code} (hf : IsFn P f fn code) {args0 : List Value} {mem0 : Mem} {R : Value → Mem → Prop}
    (h : RunsOK P fn mem0.length (OutK mem0.length R) code (args0 ++ undefs (fn.ntmps - args0.length)) mem0) : CallOK P f args0 mem0 R :=
  ⟨hf.enters, fun w0 ρ w hm hargs => by
    have key : Calls P f (args0.map (conc ρ)).toArray w (fun e w' => ∃ v mem' σ, e = .returned (conc (ρ ++ σ) v) ∧ ok2 (ρ ++ σ).length v ∧ MemAt w0 (ρ ++ σ) mem' w' ∧ OutK mem0.length R v mem') := by
      refine calls_of_wp hf.at_ hf.body ?_
      refine h.go (σ := []) (a := { tmps := _, defers := [] }) hm.len ⟨?_, fun i v hv _ => ?_, rfl⟩ (by rw [List.append_nil]; exact hm)
      · simp [undefs_eq]
      · rw [List.append_nil]
        rw [undefs_eq] at hv
        have hv' := List.mem_of_getElem? hv
        refine ⟨?_, ?_⟩
        · have e1 : (args0.map (conc ρ)).toArray ++ Array.replicate (fn.ntmps - args0.length) undef = ((args0 ++ List.replicate (fn.ntmps - args0.length) undef).map (conc ρ)).toArray := by
            rw [List.map_append, List.map_replicate, conc_undef]
            simp
          have e2 : ((args0.map (conc ρ)).toArray ++ Array.replicate (fn.ntmps - (args0.map (conc ρ)).toArray.size) undef)[i]? = some (conc ρ v) := by
            rw [List.size_toArray, List.length_map, e1]
            simp only [List.getElem?_toArray, List.getElem?_map, hv]
            rfl
          simpa using e2
        · rcases List.mem_append.1 hv' with hv' | hv'
          · exact hargs v hv'
          · rw [List.eq_of_mem_replicate hv']
            exact fun u hu => by cases hu
    exact key.mono fun e w' ⟨v, mem', σ, h1, h2, h3, h4⟩ => by
      rcases h4.ex with h4 | ⟨κ, v', mem'', hR, hS, h4⟩
      · exact ⟨v, mem', σ, h1, h2, h3, h4⟩
      · have hm2 := h3.forget hR
        rw [keep_map hm.len] at hm2
        have hl := (memR_spec hR.blk).1
        have hmap := keep_map (κ := κ) (ρ0 := ρ) (σ := σ) hm.len
        refine ⟨v', mem'', _, ?_, ?_, hm2, h4⟩
        · rw [h1, hS.eq, conc_two (by rw [hl]; exact hS.ok), hmap]
        · rw [← hmap, List.length_map, hl]; exact hS.ok⟩
end
end Go.Ev
