/-
  The box of a cone: the two walks give the same list; which cones are taken.
  Conditions: none.
-/
import Derived.Test.YtndmkibdcfpddaaKM2
set_option linter.unusedVariables false
set_option linter.unusedSimpArgs false
namespace Go.Ev

theorem isSF_iff {a : Int} : isSF a = true ↔ -20 ≤ a ∧ a ≤ 20 := by
  unfold isSF inF
  simp
theorem spF_iff {a b c : Int} : isSpF a b c = true ↔ (-20 ≤ a ∧ a ≤ 20) ∧ (-20 ≤ b ∧ b ≤ 20) ∧ (-20 ≤ c ∧ c ≤ 20) := by
  unfold isSpF
  rw [Bool.and_eq_true, Bool.and_eq_true, isSF_iff, isSF_iff, isSF_iff, and_assoc]
theorem volF_small {a b c d e f g h i : Int} (h1 : isSpF a b c = true) (h2 : isSpF d e f = true) (h3 : isSpF g h i = true) : volF a b c d e f g h i = volP a b c d e f g h i ∧ -480000 ≤ volP a b c d e f g h i ∧ volP a b c d e f g h i ≤ 480000 := by
  obtain ⟨a1, a2, a3⟩ := spF_iff.1 h1
  obtain ⟨b1, b2, b3⟩ := spF_iff.1 h2
  obtain ⟨c1, c2, c3⟩ := spF_iff.1 h3
  have hv := volP_bd (x := (a, b, c)) ⟨by simp only; omega, by simp only; omega, by simp only; omega⟩ b1 b2 b3 c1 c2 c3
  exact ⟨vol_in hv, hv⟩
/-- A cone that the program takes. -/
theorem Cn.ok_of {a b c d e f g h i : Int} (hc : isConeF a b c d e f g h i = true) (hl : decide (sizeF (volF a b c d e f g h i) > 400) = false) : (Cn.mk a b c d e f g h i).Ok := by
  unfold isConeF at hc
  simp only [Bool.and_eq_true, Bool.not_eq_true', decide_eq_false_iff_not] at hc
  obtain ⟨⟨⟨h1, h2⟩, h3⟩, h4⟩ := hc
  obtain ⟨e_, v1, v2⟩ := volF_small h1 h2 h3
  rw [e_] at h4 hl
  obtain ⟨a1, a2, a3⟩ := spF_iff.1 h1
  obtain ⟨b1, b2, b3⟩ := spF_iff.1 h2
  obtain ⟨c1, c2, c3⟩ := spF_iff.1 h3
  refine ⟨a1, a2, a3, b1, b2, b3, c1, c2, c3, h4, ?_⟩
  have hl := of_decide_eq_false hl
  unfold sizeF maxi at hl
  rw [w64_in (n := 0 - volP a b c d e f g h i) (by omega) (by omega)] at hl
  show (if volP a b c d e f g h i < 0 then (-1 : Int) else 1) * volP a b c d e f g h i ≤ 400
  split <;> split at hl <;> omega
theorem Cn.cone_F {k : Cn} (h : k.Ok) : isConeF k.a k.b k.c k.d k.e k.f k.g k.h k.i = true := by
  unfold isConeF
  rw [spF_iff.2 ⟨h.ba, h.bb, h.bc⟩, spF_iff.2 ⟨h.bd, h.be, h.bf⟩, spF_iff.2 ⟨h.bg, h.bh, h.bi⟩, Cn.vol_F h, decide_eq_false h.nz]
  rfl
theorem Cn.lim_F {k : Cn} (h : k.Ok) : decide (sizeF (volF k.a k.b k.c k.d k.e k.f k.g k.h k.i) > 400) = false := by
  rw [Cn.size_F h]
  exact decide_eq_false (by have := h.le; omega)
theorem boxL_ok {k : Cn} (h : k.Ok) : BoxL k (boxL k) := BoxL.bfs h _ _ (BoxL.start h)
theorem boxO_len {k : Cn} (h : k.Ok) : (boxO k).length ≤ 64000000 :=
  BoxL.len ⟨(boxO_asc k).nodup, fun x hx => (boxL_ok h).box x ((boxO_mem k x).1 hx)⟩ h
/-- A permutation in order. -/
theorem asc_perm {l m : List S3} (hp : l.Perm m) (hs : l.Pairwise (fun x y => lt3 y x = false)) (hd : m.Nodup) : Asc l := by
  have hd2 : l.Nodup := hp.nodup_iff.2 hd
  refine (hs.and hd2).imp ?_
  rintro x y ⟨h1, h2⟩
  cases h : lt3 x y
  · exact absurd (lt3_total h h1) h2
  · rfl
theorem box_eq {k : Cn} (h : k.Ok) {l : List S3} (hp : l.Perm (boxL k)) (hs : l.Pairwise (fun x y => lt3 y x = false)) : l = boxO k := by
  refine asc_uniq (asc_perm hp hs (boxL_ok h).nd) (boxO_asc k) fun x => ?_
  rw [hp.mem_iff, boxO_mem]
end Go.Ev
