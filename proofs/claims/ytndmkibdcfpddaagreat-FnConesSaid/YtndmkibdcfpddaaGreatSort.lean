/-
  A sort by the kit's contract, as a contract of the evaluator.
  Conditions: as stated.
-/
import Derived.Test.YtndmkibdcfpddaaGreatUseD
import Derived.Shelf.SlSortCmp.WholeK
set_option linter.unusedVariables false
set_option linter.unusedSimpArgs false
namespace Go.Ev
set_option linter.unusedSectionVars false
open Go.RowKit

section
variable {α : Type} [Inhabited α]

def encL (enc : α → List Value) (l : List α) : List Value := (l.map enc).flatten
theorem encL_cons (enc : α → List Value) (x : α) (l : List α) : encL enc (x :: l) = enc x ++ encL enc l := by simp [encL]
theorem encL_len {enc : α → List Value} {k : Nat} (hk : ∀ x, (enc x).length = k) : ∀ l : List α, (encL enc l).length = l.length * k
  | [] => by simp [encL]
  | x :: l => by rw [encL_cons, List.length_append, encL_len hk l, hk, List.length_cons, Nat.add_mul]; omega
theorem encL_plain {enc : α → List Value} (hp : ∀ x, Plain (enc x)) : ∀ l : List α, Plain (encL enc l)
  | [] => Plain.nil
  | x :: l => by rw [encL_cons]; exact (hp x).app (encL_plain hp l)
theorem encL_get {enc : α → List Value} {k : Nat} (hk : ∀ x, (enc x).length = k) : ∀ (l : List α) (t : Nat), t < l.length * k → (encL enc l)[t]? = some ((enc (l.getD (t / k) default))[t % k]!)
  | [], t, h => by simp at h
  | x :: l, t, h => by
    rw [encL_cons]
    rw [List.length_cons, Nat.add_mul, Nat.one_mul] at h
    by_cases ht : t < k
    · rw [List.getElem?_append_left (by rw [hk]; exact ht), Nat.div_eq_of_lt ht, Nat.mod_eq_of_lt ht]
      have : t < (enc x).length := by rw [hk]; exact ht
      simp [this]
    · obtain ⟨u, rfl⟩ : ∃ u, t = u + k := ⟨t - k, by omega⟩
      have hk0 : 0 < k := by
        rcases Nat.eq_zero_or_pos k with h0 | h0
        · subst h0; simp at h
        · exact h0
      rw [List.getElem?_append_right (by rw [hk]; omega), hk, Nat.add_sub_cancel, encL_get hk l u (by omega), Nat.add_div_right _ hk0, Nat.add_mod_right]
      simp
theorem flat_encL {enc : α → List Value} {k : Nat} (hk : ∀ x, (enc x).length = k) (d : Array α) : (Go.Sort.flatK enc k d).toList = encL enc d.toList := by
  apply List.ext_getElem?
  intro t
  by_cases h : t < d.size * k
  · rw [encL_get hk d.toList t (by simpa using h)]
    have h1 : t < (Go.Sort.flatK enc k d).size := by simpa using h
    have h2 := Go.Sort.get_flatK enc k d t h
    rw [getElem!_pos _ t h1] at h2
    rw [Array.getElem?_toList, Array.getElem?_eq_getElem h1, h2]
    congr 3
    by_cases h3 : t / k < d.size
    · simp [List.getD, h3]
    · simp [List.getD, h3]
  · rw [List.getElem?_eq_none (by simpa using Nat.le_of_not_lt h), List.getElem?_eq_none (by rw [encL_len hk]; simpa using Nat.le_of_not_lt h)]

theorem put_cells {F : Array Value} {L sp : List Value} (h : L.length = F.size) : Go.Sort.putCells id 0 F (L ++ sp).toArray = (F.toList ++ sp).toArray := by
  apply Array.ext
  · simp [Go.Sort.putCells, h]
  · intro i h1 h2
    simp only [Go.Sort.putCells, Array.getElem_mapIdx, List.getElem_toArray, Nat.zero_le, true_and, Nat.zero_add, Nat.sub_zero, id]
    by_cases hi : i < F.size
    · rw [if_pos hi, List.getElem_append_left (by simpa using hi), getElem!_pos F i hi]; simp
    · rw [if_neg hi, List.getElem_append_right (by omega), List.getElem_append_right (by simpa using Nat.le_of_not_lt hi)]
      simp [h]

theorem sort_mem {w0 : Base} {ρ : List Nat} {w : World} {enc : α → List Value} {k : Nat} (hk : ∀ x, (enc x).length = k) (hp : ∀ x, Plain (enc x)) {d d' : List α} {sp : List Value} {t : Nat} (hps : Plain sp)
    (hm : MemAt w0 ρ [(encL enc d ++ sp, some t)] w) (hl : d'.length = d.length) (n : Nat) (os : Array Obj) :
    MemAt w0 ρ [(encL enc d' ++ sp, some t)] (Go.Proofs.sortWorldK enc k w (ρ.getD 0 0) 0 n d'.toArray os) := by
  obtain ⟨hown, _⟩ := hm.own 0 _ t rfl
  have hpl : Plain (encL enc d ++ sp) := (encL_plain hp d).app hps
  have hpl' : Plain (encL enc d' ++ sp) := (encL_plain hp d').app hps
  rw [hpl.map] at hown
  have e1 : Go.Proofs.sortWorldK enc k w (ρ.getD 0 0) 0 n d'.toArray os = Go.Sort.grow { upd w (ρ.getD 0 0) (.cells (encL enc d' ++ sp).toArray t (0, 0)) with drawn := w.drawn + n } os := by
    unfold Go.Proofs.sortWorldK Go.Sort.putRowK Go.Sort.putRow Go.Sort.mapBlock Go.Sort.ahead upd
    simp only
    rw [modify_known _ _ _ _ hown]
    simp only [Go.Sort.onCells]
    rw [put_cells (by rw [encL_len hk, Go.Sort.size_flatK]; simp [hl]), flat_encL hk]
  rw [e1]
  have h2 := hm.store (k := 0) (t := t) (cs := encL enc d ++ sp) (cs' := encL enc d' ++ sp) rfl (hpl'.ok _)
  rw [hpl'.map] at h2
  have h3 := h2.drew (w.drawn + n)
  refine MemAt.below h3 ⟨rfl, rfl, rfl, by simp [Go.Sort.grow], fun b hb => ?_⟩
  show (_ ++ os)[b]? = _
  rw [Array.getElem?_append_left hb]

theorem sort_call {P : Program} {r : Go.Shelf.Ren} (L : Go.Proofs.SlLaysF0.n6 P r) (k : Nat) (aE : ∀ w, (isAgg (r.t 24)).run P w = .ok true w) (zE : ∀ w, (Go.sizeOf (r.t 24)).run P w = .ok k w)
    {enc : α → List Value} (hk : ∀ x, (enc x).length = k) (hp : ∀ x, Plain (enc x)) (h1 : ∀ x, ∀ v ∈ enc x, v.oneCell' = true) {cf : α → α → Int} (hO : Go.Sort.SWO (Go.Proofs.ltOf cf)) {g : Nat}
    (eg : ∀ args w, (callFunc g args).run P w = .ok (.enter g args) w)
    (hcmp : ∀ (x y : α) (w : World), Calls P g #[.agg (enc x).toArray, .agg (enc y).toArray] w fun e w' => e = .returned (.int .i64 (cf x y)) ∧ ∃ q os', w' = Go.Sort.grow (w.drewN q) os')
    {f : Nat} (hf : r.f 6 = f) (en : Enters P f) {d : List α} {sp : List Value} {c t : Nat} (hps : Plain sp) (hsz : d.length < 4611686018427387904) :
    CallOK P f [.slice (some ⟨0, 0, none⟩) d.length c, .func (.func g) #[] #[]] [(encL enc d ++ sp, some t)] fun v m_ =>
      ∃ d' : List α, d'.Perm d ∧ d'.Pairwise (fun x y => Go.Proofs.ltOf cf y x = false) ∧ v = .tuple #[] ∧ m_ = [(encL enc d' ++ sp, some t)] := by
  subst hf
  refine ⟨en, fun w0 ρ w hm _ => ?_⟩
  obtain ⟨hown, _⟩ := hm.own 0 _ t rfl
  have hpl : Plain (encL enc d ++ sp) := (encL_plain hp d).app hps
  rw [hpl.map] at hown
  have hb := heap_lt hown
  have hH : Go.Sort.HoldsK enc k w (ρ.getD 0 0) 0 d.toArray := by
    intro j hj
    rw [Nat.zero_add]
    have hj' : j < d.length * k := by simpa using hj
    refine ⟨?_, Lib.frozen_of_heap hown j⟩
    rw [Lib.cell_of_heap hown]
    have h2 : j < (encL enc d).length := by rw [encL_len hk]; exact hj'
    rw [List.getElem?_toArray, List.getElem?_append_left h2, getElem!_pos _ j hj]
    have h3 : (encL enc d)[j]? = (Go.Sort.flatK enc k d.toArray).toList[j]? := by rw [flat_encL hk]
    rw [h3, Array.getElem?_toList, Array.getElem?_eq_getElem hj]; rfl
  have hS := Go.Proofs.AnyQ.slices_SortFunc L k aE zE enc hk h1 cf hO g #[] (ρ.getD 0 0) 0 c d.toArray w eg (fun m os dk hs x y => by
    have := hcmp x y (Go.Proofs.sortWorldK enc k w (ρ.getD 0 0) 0 m dk os)
    rwa [show (#[.agg (enc x).toArray, .agg (enc y).toArray] ++ #[] : Array Value) = #[.agg (enc x).toArray, .agg (enc y).toArray] by simp]) hH hb (by simpa using hsz)
  show Calls P (r.f 6) #[.slice (some ⟨ρ.getD 0 0, 0, none⟩) d.toArray.size c, .func (.func g) #[] #[]] w _
  refine hS.mono fun e w' ⟨he, d', n, os, hperm, hsort, hw⟩ => ?_
  have hl : d'.toList.length = d.length := by simpa using hperm.1
  refine ⟨.tuple #[], [(encL enc d'.toList ++ sp, some t)], [], ?_, ?_, ?_, d'.toList, ?_, ?_, rfl, rfl⟩
  · rw [he]; rfl
  · exact fun x hx => by simp at hx
  · rw [List.append_nil, hw]
    exact sort_mem hk hp hps hm hl n os
  · have := hperm.2.2
    simpa [hperm.1, Array.extract_eq_self_of_le] using this
  · rw [List.pairwise_iff_getElem]
    intro i j hi hj hij
    have hj' : j < d'.size := by simpa using hj
    have := hsort i j (Nat.zero_le _) hij (by rw [← hperm.1]; exact hj')
    rw [getElem!_pos d' j hj', getElem!_pos d' i (by omega)] at this
    exact this
end

end Go.Ev
