/-
  Contracts of functions of the program (printed by a program of this work; Lean checks each).
  Conditions: as each contract states.
-/
import Derived.Test.YtnjepaboecijcaaK8
import Derived.Test.YtnjepaboecijcaaSort
import Derived.Test.YtnjepaboecijcaaFl
import Derived.WalkKit
import Derived.Shelf.SlSortCmp.WholeK
namespace Go.Proofs.Ytnjepaboecijcaa
open Go.Ev Go.RowKit
set_option maxRecDepth 100000
set_option linter.unusedVariables false
set_option linter.unusedSimpArgs false

def sortFr_ren : Go.Shelf.Ren := ⟨fun | 6 => 89 | 15 => 117 | 14 => 116 | 28 => 135 | 29 => 136 | 20 => 127 | 21 => 128 | 22 => 129 | 23 => 130 | 24 => 131 | 25 => 132 | 26 => 133 | 27 => 134 | 46 => 137 | 47 => 138 | 48 => 139 | 49 => 140 | 50 => 141 | 57 => 142 | n => n, fun | 22 => 31 | 24 => 23 | 25 => 100 | 3 => 3 | 39 => 111 | 0 => 0 | 53 => 129 | 55 => 107 | 4 => 4 | 46 => 122 | 45 => 121 | 50 => 126 | 5 => 5 | 9 => 9 | 66 => 131 | 70 => 135 | 76 => 137 | 77 => 138 | n => n, fun | n => n⟩
theorem sortFr : Go.Proofs.SlLaysF0.n6 Try.prog sortFr_ren := {
  mixed := by kernel_rfl
  f6 := ⟨Try.f89.name, by decide, Try.func89.trans (congrArg some (by kernel_rfl))⟩
  f14 := ⟨Try.f116.name, by decide, Try.func116.trans (congrArg some (by kernel_rfl))⟩
  f15 := Try.func117.trans (congrArg some (by kernel_rfl))
  f20 := ⟨Try.f127.name, by decide, Try.func127.trans (congrArg some (by kernel_rfl))⟩
  f21 := ⟨Try.f128.name, by decide, Try.func128.trans (congrArg some (by kernel_rfl))⟩
  f22 := ⟨Try.f129.name, by decide, Try.func129.trans (congrArg some (by kernel_rfl))⟩
  f23 := ⟨Try.f130.name, by decide, Try.func130.trans (congrArg some (by kernel_rfl))⟩
  f24 := ⟨Try.f131.name, by decide, Try.func131.trans (congrArg some (by kernel_rfl))⟩
  f25 := ⟨Try.f132.name, by decide, Try.func132.trans (congrArg some (by kernel_rfl))⟩
  f26 := ⟨Try.f133.name, by decide, Try.func133.trans (congrArg some (by kernel_rfl))⟩
  f27 := ⟨Try.f134.name, by decide, Try.func134.trans (congrArg some (by kernel_rfl))⟩
  f28 := Try.func135.trans (congrArg some (by kernel_rfl))
  f29 := Try.func136.trans (congrArg some (by kernel_rfl))
  f46 := ⟨Try.f137.name, by decide, Try.func137.trans (congrArg some (by kernel_rfl))⟩
  f47 := Try.func138.trans (congrArg some (by kernel_rfl))
  f48 := Try.func139.trans (congrArg some (by kernel_rfl))
  f49 := ⟨Try.f140.name, by decide, Try.func140.trans (congrArg some (by kernel_rfl))⟩
  f50 := ⟨Try.f141.name, by decide, Try.func141.trans (congrArg some (by kernel_rfl))⟩
  f57 := ⟨Try.f142.name, by decide, Try.func142.trans (congrArg some (by kernel_rfl))⟩
  t0 := Try.underlying0
  a0 := Try.isAgg0
  z0 := Try.sizeOf0
  v0 := Try.zeroValue0
  t3 := Try.underlying3
  a3 := Try.isAgg3
  z3 := Try.sizeOf3
  v3 := Try.zeroValue3
  t4 := Try.underlying4
  a4 := Try.isAgg4
  z4 := Try.sizeOf4
  v4 := Try.zeroValue4
  t5 := Try.underlying5
  a5 := Try.isAgg5
  z5 := Try.sizeOf5
  v5 := Try.zeroValue5
  t9 := Try.underlying9
  a9 := Try.isAgg9
  z9 := Try.sizeOf9
  v9 := Try.zeroValue9
  t22 := Try.underlying31
  a22 := Try.isAgg31
  z22 := Try.sizeOf31
  v22 := Try.zeroValue31
  t25 := Try.underlying100
  a25 := Try.isAgg100
  z25 := Try.sizeOf100
  v25 := Try.zeroValue100
  t39 := Try.underlying111
  a39 := Try.isAgg111
  z39 := Try.sizeOf111
  v39 := Try.zeroValue111
  t45 := Try.underlying121
  a45 := Try.isAgg121
  z45 := Try.sizeOf121
  v45 := Try.zeroValue121
  t46 := Try.underlying122
  a46 := Try.isAgg122
  z46 := Try.sizeOf122
  v46 := Try.zeroValue122
  t50 := Try.underlying126
  a50 := Try.isAgg126
  z50 := Try.sizeOf126
  v50 := Try.zeroValue126
  t53 := Try.underlying129
  a53 := Try.isAgg129
  z53 := Try.sizeOf129
  v53 := Try.zeroValue129
  t55 := Try.underlying107
  a55 := Try.isAgg107
  z55 := Try.sizeOf107
  v55 := Try.zeroValue107
  t66 := Try.underlying131
  a66 := Try.isAgg131
  z66 := Try.sizeOf131
  v66 := Try.zeroValue131
  t70 := Try.underlying135
  a70 := Try.isAgg135
  z70 := Try.sizeOf135
  v70 := Try.zeroValue135
  t76 := Try.underlying137
  a76 := Try.isAgg137
  z76 := Try.sizeOf137
  v76 := Try.zeroValue137
  t77 := Try.underlying138
  a77 := Try.isAgg138
  z77 := Try.sizeOf138
  v77 := Try.zeroValue138 }

theorem nan_w (x : Int) (w : World) : Calls Try.prog 118 #[.int .i64 x] w fun e w' => e = .returned (.bool false) ∧ w' = w := by
  go_enter Try.func118, Try.ntmps118
  go_wp2
  go_ret
  exact ⟨by simp, rfl⟩
theorem det_w (a b c d : Int) (w : World) : Calls Try.prog 92 #[.agg #[.int .i64 a, .int .i64 b], .agg #[.int .i64 c, .int .i64 d]] w fun e w' => e = .returned (.int .i64 (wrap64 (wrap64 (a * d) - wrap64 (b * c)))) ∧ ∃ q os', w' = Go.Sort.grow (w.drewN q) os' := by
  go_enter Try.func92, Try.ntmps92
  go_wp2
  go_ret
  exact ⟨rfl, 0, _, by rw [Go.Sort.alloc_eq_grow, Go.Sort.alloc_eq_grow, Go.Sort.grow_grow]; rfl⟩
set_option maxHeartbeats 1000000 in
theorem cmp_w (x y : Int) (w : World) : Calls Try.prog 91 #[.int .i64 x, .int .i64 y] w fun e w' => e = .returned (.int .i64 (if x < y then -1 else if y < x then 1 else 0)) ∧ w' = w := by
  have hn := nan_w
  go_enter Try.func91, Try.ntmps91
  go_wp2_with (go_at_call 118; refine (hn _ _).mono ?_; rintro e w' ⟨rfl, rfl⟩)
  all_goals (go_ret; exact ⟨by simp_all <;> omega, rfl⟩)
/-- Fractions between 0 and 1 with a small second number. -/
abbrev Fr : Type := { p : Int × Int // (0 ≤ p.1 ∧ p.1 ≤ 1000) ∧ 1 ≤ p.2 ∧ p.2 ≤ 1000 }
instance : Inhabited Fr := ⟨⟨(0, 1), by decide⟩⟩
def frEnc (x : Fr) : List Value := [.int .i64 x.1.1, .int .i64 x.1.2]
def frCmp (x y : Fr) : Int := if x.1.1 * y.1.2 < x.1.2 * y.1.1 then -1 else if x.1.2 * y.1.1 < x.1.1 * y.1.2 then 1 else 0
theorem mul_bd {a b : Int} (ha : 0 ≤ a ∧ a ≤ 1000) (hb : 0 ≤ b ∧ b ≤ 1000) : 0 ≤ a * b ∧ a * b ≤ 1000000 := by
  have h1 := Int.mul_nonneg ha.1 hb.1
  have h2 := Int.mul_le_mul ha.2 hb.2 hb.1 (by omega : (0 : Int) ≤ 1000)
  omega
set_option maxHeartbeats 1000000 in
theorem clo_w (x y : Fr) (w : World) : Calls Try.prog 90 #[.agg (frEnc x).toArray, .agg (frEnc y).toArray] w fun e w' => e = .returned (.int .i64 (frCmp x y)) ∧ ∃ q os', w' = Go.Sort.grow (w.drewN q) os' := by
  obtain ⟨⟨a, b⟩, ha, hb⟩ := x
  obtain ⟨⟨c, d⟩, hc, hd⟩ := y
  have h1 := mul_bd ha (show 0 ≤ d ∧ d ≤ 1000 from ⟨by have := hd.1; simp only at this; omega, hd.2⟩)
  have h2 := mul_bd (show 0 ≤ b ∧ b ≤ 1000 from ⟨by have := hb.1; simp only at this; omega, hb.2⟩) hc
  simp only at ha hb hc hd h1 h2
  have e1 : wrap64 (wrap64 (a * d) - wrap64 (b * c)) = a * d - b * c := by
    have ea : wrap64 (a * d) = a * d := by rw [← w64_eq]; exact w64_in (by omega) (by omega)
    have eb : wrap64 (b * c) = b * c := by rw [← w64_eq]; exact w64_in (by omega) (by omega)
    rw [ea, eb, ← w64_eq]; exact w64_in (by omega) (by omega)
  have e2 : frCmp ⟨(a, b), ha, hb⟩ ⟨(c, d), hc, hd⟩ = if a * d - b * c < 0 then -1 else if 0 < a * d - b * c then 1 else 0 := by
    unfold frCmp
    simp only
    split <;> split <;> first | rfl | omega | (split <;> first | rfl | omega) | (split <;> split <;> first | rfl | omega)
  rw [e2]
  have hdet := fun w => det_w a b c d w
  simp only [e1] at hdet
  generalize a * d - b * c = z at hdet ⊢
  have hcm := fun w => cmp_w z 0 w
  generalize (if z < 0 then (-1 : Int) else if 0 < z then 1 else 0) = r at hcm ⊢
  show Calls Try.prog 90 #[.agg #[.int .i64 a, .int .i64 b], .agg #[.int .i64 c, .int .i64 d]] w _
  clear e1 e2 h1 h2 ha hb hc hd
  go_enter Try.func90, Try.ntmps90
  go_wp2_with (first | (go_at_call 92; refine (hdet _).mono ?_; rintro e w' ⟨rfl, q, os, rfl⟩) | (go_at_call 91; refine (hcm _).mono ?_; rintro e w' ⟨rfl, rfl⟩))
  go_ret
  refine ⟨rfl, q, #[.cells #[.int .i64 a, .int .i64 b] 23, .cells #[.int .i64 c, .int .i64 d] 23] ++ os, ?_⟩
  rw [Go.Sort.alloc_eq_grow, Go.Sort.alloc_eq_grow, Go.Sort.grow_grow]
  show Go.Sort.grow (Go.Sort.grow (w.drewN q) _) os = _
  rw [Go.Sort.grow_grow]
  rfl

theorem fr_lt (x y : Fr) : Go.Proofs.ltOf frCmp x y = decide (x.1.1 * y.1.2 < x.1.2 * y.1.1) := by
  unfold Go.Proofs.ltOf frCmp
  by_cases h : x.1.1 * y.1.2 < x.1.2 * y.1.1
  · rw [if_pos h, decide_eq_true h]; rfl
  · rw [if_neg h, decide_eq_false h]; split <;> rfl
theorem fr_mono {a b c d e f : Int} (hd : 0 < d) (hb : 0 ≤ b) (hf : 0 ≤ f) (h1 : a * d ≤ b * c) (h2 : c * f ≤ d * e) : a * f ≤ b * e := by
  have k1 := Int.mul_le_mul_of_nonneg_right h1 hf
  have k2 := Int.mul_le_mul_of_nonneg_left h2 hb
  have e1 : a * d * f = a * f * d := by rw [Int.mul_assoc, Int.mul_comm d f, Int.mul_assoc]
  have e2 : b * c * f = b * (c * f) := Int.mul_assoc ..
  have e3 : b * (d * e) = b * e * d := by rw [Int.mul_comm d e, Int.mul_assoc]
  exact Int.le_of_mul_le_mul_right (by omega) hd
theorem fr_mono_lt {a b c d e f : Int} (hd : 0 < d) (hb : 0 ≤ b) (hf : 0 < f) (h1 : a * d < b * c) (h2 : c * f ≤ d * e) : a * f < b * e := by
  have k1 := Int.mul_lt_mul_of_pos_right h1 hf
  have k2 := Int.mul_le_mul_of_nonneg_left h2 hb
  have e1 : a * d * f = a * f * d := by rw [Int.mul_assoc, Int.mul_comm d f, Int.mul_assoc]
  have e2 : b * c * f = b * (c * f) := Int.mul_assoc ..
  have e3 : b * (d * e) = b * e * d := by rw [Int.mul_comm d e, Int.mul_assoc]
  exact Int.lt_of_mul_lt_mul_right (a := d) (by omega) (by omega)
theorem fr_swo : Go.Sort.SWO (Go.Proofs.ltOf frCmp) where
  irrefl x := by rw [fr_lt, decide_eq_false]; rw [Int.mul_comm]; omega
  trans x y z h1 h2 := by
    rw [fr_lt, decide_eq_true_eq] at *
    have := x.2; have := y.2; have := z.2
    exact fr_mono_lt (by omega) (by omega) (by omega) h1 (by omega)
  ntrans x y z h1 h2 := by
    rw [fr_lt, decide_eq_false_iff_not] at *
    have := x.2; have := y.2; have := z.2
    have e1 := Int.mul_comm x.1.2 y.1.1
    have e2 := Int.mul_comm x.1.1 y.1.2
    have e3 := Int.mul_comm y.1.2 z.1.1
    have e4 := Int.mul_comm y.1.1 z.1.2
    have e5 := Int.mul_comm x.1.2 z.1.1
    have e6 := Int.mul_comm x.1.1 z.1.2
    have := fr_mono (a := z.1.1) (b := z.1.2) (c := y.1.1) (d := y.1.2) (e := x.1.1) (f := x.1.2) (by omega) (by omega) (by omega) (by omega) (by omega)
    omega

theorem fr_cells (d : List Fr) : encL frEnc d = pl (d.map Subtype.val) := by
  unfold encL pl
  induction d with
  | nil => rfl
  | cons x d ih => simp only [List.map_cons, List.flatten_cons, List.flatMap_cons]; rw [ih]; rfl
theorem fr_of : ∀ {L : List (Int × Int)}, (∀ p ∈ L, (0 ≤ p.1 ∧ p.1 ≤ 1000) ∧ 1 ≤ p.2 ∧ p.2 ≤ 1000) → ∃ d : List Fr, d.map Subtype.val = L
  | [], _ => ⟨[], rfl⟩
  | p :: L, h => by
    obtain ⟨d, hd⟩ := fr_of (L := L) fun q hq => h q (by simp [hq])
    exact ⟨⟨p, h p (by simp)⟩ :: d, by simp [hd]⟩
theorem c_sort {L : List (Int × Int)} {sp : List Value} {n c t : Nat} (h1 : Row (pl L) sp n c 2) (hL : ∀ p ∈ L, (0 ≤ p.1 ∧ p.1 ≤ 1000) ∧ 1 ≤ p.2 ∧ p.2 ≤ 1000) (hn : n ≤ 1000000) :
    CallOK Try.prog 89 [.slice (some ⟨0, 0, none⟩) n c, .func (.func 90) #[] #[]] [(pl L ++ sp, some t)] fun v m_ =>
      ∃ L' : List (Int × Int), L'.Perm L ∧ L'.Pairwise (fun x y => ¬ y.1 * x.2 < y.2 * x.1) ∧ v = .tuple #[] ∧ m_ = [(pl L' ++ sp, some t)] := by
  obtain rfl := row_pl h1
  obtain ⟨d, rfl⟩ := fr_of hL
  have := sort_call sortFr 2 Try.isAgg23 Try.sizeOf23 (enc := frEnc) (fun _ => rfl) (fun x => Plain.of rfl) (fun x v hv => by simp [frEnc] at hv; rcases hv with rfl | rfl <;> rfl) fr_swo (g := 90)
    (enters_of Try.func90 (by kernel_rfl) rfl) clo_w (f := 89) rfl fn_slices_SortFunc_Point.enters (d := d) (sp := sp) (c := c) (t := t) h1.ps (by simp at hn; omega)
  rw [fr_cells, show d.length = (d.map Subtype.val).length by simp] at this
  refine ⟨this.enters, fun w0 ρ w hm hargs => (this.run w0 ρ w hm hargs).mono fun e w' ⟨v, mem', σ, he, ho, hm', d', hp, hs, hv, hmem⟩ => ⟨v, mem', σ, he, ho, hm', d'.map Subtype.val, hp.map _, ?_, hv, by rw [hmem, fr_cells]⟩⟩
  rw [List.pairwise_map]
  refine hs.imp fun {x y} hxy => ?_
  rw [fr_lt, decide_eq_false_iff_not] at hxy
  exact hxy

end Go.Proofs.Ytnjepaboecijcaa
