/-
  Several texts of this work in one (a claim holds at most 60 files).
  Conditions: as each contract states.
-/
import Derived.Test.YtnjepaboecijcaaArg
import Derived.Test.YtnjepaboecijcaaMate
import Derived.Test.YtnjepaboecijcaaEvUse
import Derived.Test.YtnjepaboecijcaaK9
import Derived.Test.YtnjepaboecijcaaSpot
import Derived.Test.YtnjepaboecijcaaK6
import Derived.Test.YtnjepaboecijcaaK5
import Derived.Test.YtnjepaboecijcaaK93
import Derived.Test.YtnjepaboecijcaaK8
import Derived.Test.YtnjepaboecijcaaGeo
import Derived.Test.YtnjepaboecijcaaK37
section
/-
  The source of numbers that the draws use: what is told of it. Conditions: none.
-/
set_option linter.unusedVariables false
set_option linter.unusedSimpArgs false
namespace Go.Ev
open Go.RowKit

abbrev wv (h : Int) : Value := .int .u64 h
/-- A source's place in a code of n bytes. -/
structure SrcAt (n : Nat) (o : Int) : Prop where
  lo : 0 ≤ o
  hi : o ≤ (n : Int)
theorem SrcAt.zero (n : Nat) : SrcAt n 0 := ⟨Int.le_refl _, by omega⟩
theorem SrcAt.next {n : Nat} {o : Int} (h : SrcAt n o) (hn : n ≤ 4096) (ho : o < (n : Int)) : SrcAt n (w64 (o + 1)) := by
  have := h.lo
  rw [w64_in (by omega) (by omega)]
  exact ⟨by omega, by omega⟩
/-- A number below m, if m is at least 1. -/
def Below1 (m x : Int) : Prop := 1 ≤ m → 0 ≤ x ∧ x < m
theorem below_mod {m x : Int} (hx : 0 ≤ x) : Below1 m (x.tmod m) := fun hm => by
  rw [tmod_pos hx]
  exact ⟨Int.emod_nonneg _ (by omega), Int.emod_lt_of_pos _ (by omega)⟩
theorem below_zero {m : Int} (hm : m < 1) : Below1 m 0 := fun h => by omega
theorem src_x (h : Int) : 0 ≤ w64 (u64and h 1073741823) ∧ w64 (u64and h 1073741823) ≤ 1073741823 := by
  have := u64and_le h
  rw [w64_in (by omega) (by omega)]; exact this
theorem src_xb {h b : Int} (hb : IsByte b) : 0 ≤ w64 (w64 (u64and h 1073741823) + w64 b) := by
  have h1 := src_x h
  have h2 := hb.1; have h3 := hb.2
  rw [w64_in (n := b) (by omega) (by omega), w64_in (by omega) (by omega)]
  omega
theorem byte_at {zs : List Int} (hb : ∀ z ∈ zs, IsByte z) {i : Nat} (hi : i < zs.length) : IsByte (zs.getD i 0) := hb _ (getD_mem hi)
theorem take_il0 {xs : List Int} {off i : Nat} (ho : off = i) (hi : i < xs.length) : List.take 1 (List.drop off (il xs)) = [iv (xs.getD i 0)] := by
  have := take_il (xs := xs) (sp := []) ho hi
  rwa [List.append_nil] at this
theorem three_of {x : Int} (h : Below1 3 x) : x = 0 ∨ x = 1 ∨ x = 2 := by
  have := h (by omega)
  omega

end Go.Ev
end

section
/-
  The use of a contract whose result holds no address: the result as it is told, memory with its cells told. Conditions: none.
-/
set_option linter.unusedVariables false
namespace Go.Ev
open Go.RowKit

theorem mapK_eval {κ : List Nat} {cs cs' : List Value} {k : List Value → Prop} (h : cs.map (conc0 κ) = cs') (hk : k cs') : MapK κ cs k := ⟨by rw [h]; exact hk⟩

theorem CallOK.useD {P : Program} {f : Nat} {args0 args : List Value} {mem0 mem : Mem} {R k : Value → Mem → Prop} (h : CallOK P f args0 mem0 R) (ι : List Nat) (hargs : args0.map (conc ι) = args)
    (hok : allL (okB1 mem0.length) args0 = true) (hnd : nodupB ι = true) (hblk : blkV ι mem mem0.length ι mem0)
    (hk : ∀ v mem', R v mem' → kindsB (mem0.map (·.2)) (mem'.map (·.2)) = true ∧ ∃ v', (∀ κ, conc κ v = v') ∧ setK (iotaL ι mem.length (mem'.length - mem0.length)) mem ι mem' fun m1 =>
      newK (iotaL ι mem.length (mem'.length - mem0.length)) m1 (mem'.drop mem0.length) fun m2 => k v' m2) : CallOK P f args mem k := by
  refine h.useR ι hargs hok hnd hblk fun v mem' hR => ?_
  obtain ⟨h3, v', hv, h4⟩ := hk v mem' hR
  refine ⟨h3, ?_⟩
  simp only [forceV_eq, hv]
  exact h4

end Go.Ev
end

section
/-
  Contracts of functions of the program (printed by a program of this work; Lean checks each).
  Conditions: as each contract states.
-/
namespace Go.Proofs.Ytnjepaboecijcaa
open Go.Ev Go.RowKit
set_option maxRecDepth 100000
set_option linter.unusedVariables false
set_option linter.unusedSimpArgs false

set_option maxHeartbeats 1000000 in
theorem c_From_L {zs : List Int} {off n c : Nat} (hz : n ≤ zs.length) (hb : ∀ z ∈ zs, IsByte z) (hn : n ≤ 4096) : CallOK Try.prog n_spec_l01From [.slice (some ⟨0, off, none⟩) n c] [(away off (bl zs), none)] (fun v m_ => ∃ h, v = .pointer (some ⟨1, 0, none⟩) ∧ m_ = [(away off (bl zs), none), ([.slice (some ⟨0, off, none⟩) n c, ii 0, wv h], some t_spec_l01Source)]) := by
  refine callOK_ofF good fn_spec_l01From ?_
  conv => whnf
  all_goals (repeat' first
    | (refine enter_forget [1] (loop_rec (fun (s : Int × Int) => match s with | (i, h) => [.slice (some ⟨0, off, none⟩) n c, wild, wild, .pointer (some ⟨1, 0, none⟩), ii i, wild, wild, wild, wild, wild, wild, wild, wild, wild, wild, wild, wild, wild, wild, wild, wild, wild, wild, wild, wild, wild, wild, wild, wild, wild, wild, wild, wild, wild, wild, wild, wild, wild]) (fun (s : Int × Int) => match s with | (i, h) => [(away off (bl zs), none), ([.slice (some ⟨0, off, none⟩) n c, ii 0, wv h], some t_spec_l01Source)]) (fun (s : Int × Int) => match s with | (i, h) => ((n : Int) - i).toNat) (fun (s : Int × Int) => match s with | (i, h) => 0 ≤ i ∧ i ≤ (n : Int)) (0, u64add 12971 (u64of (n : Int))) (by omega) ?_) (tmR_rfl rfl rfl) ⟨⟨⟨_, rfl, .lit (away_conc (bl_plain _) _).symm rfl (away_ok (bl_plain _) _)⟩⟩, ⟨⟨_, rfl, .lit rfl rfl (fun v hv => okB0_spec (allL_spec rfl v hv))⟩⟩, trivial⟩ rfl rfl; rintro fuel_ ⟨i, h⟩ hI IH; replace hI : 0 ≤ i ∧ i ≤ (n : Int) := hI; conv => whnf)
    | exact next_forget [1] (IH (w64 (i + 1), _) (idx_next hI (show decide (i < (n : Int)) = true by assumption) (by omega)) (idx_mu hI (show decide (i < (n : Int)) = true by assumption) (by omega))) (tmR_rfl rfl rfl) ⟨⟨⟨_, rfl, .lit (away_conc (bl_plain _) _).symm rfl (away_ok (bl_plain _) _)⟩⟩, ⟨⟨_, rfl, .lit rfl rfl (fun v hv => okB0_spec (allL_spec rfl v hv))⟩⟩, trivial⟩ rfl rfl
    | (refine br_in hI.1 (of_decide_eq_true (show decide (i < (n : Int)) = true by assumption)) ?_; conv => whnf)
    | (refine force_eq (take_bl (xs := zs) (i := i.toNat) rfl ?_ ?_) ?_; (focus (simp only [Nat.mul_one]; done)); (focus (have := hI.1; have := of_decide_eq_true (show decide (i < (n : Int)) = true by assumption); omega)); conv => whnf)
    | (show OutK _ _ _ _; exact out_forget [_] ⟨_, rfl, rfl⟩ rfl (okB2_spec rfl) ⟨⟨⟨_, rfl, .lit (away_conc (bl_plain _) _).symm rfl (away_ok (bl_plain _) _)⟩⟩, ⟨⟨_, rfl, .lit rfl rfl (fun v hv => okB0_spec (allL_spec rfl v hv))⟩⟩, trivial⟩ rfl rfl)
    | (refine StoreK.mk rfl ?_; conv => whnf)
    | exact join_same
    | exact (by assumption : (_ : Bool) = (_ : Bool))
    | (refine br_true (by assumption) ?_; conv => whnf)
    | (refine br_false (by assumption) ?_; conv => whnf)
    | (refine br_not ?_; conv => whnf)
    | (refine br_code ?_; conv => whnf)
    | (with_reducible refine br_and ?_; conv => whnf)
    | (with_reducible refine br_or ?_; conv => whnf)
    | (refine br_eq2 ?_; conv => whnf)
    | (refine draw_auto (by decide +kernel) ?_; conv => whnf)
    | (refine draw_asg (by decide +kernel) ?_; conv => whnf)
    | (refine draw_st (by decide +kernel) ?_; conv => whnf)
    | (refine draw_call (by decide +kernel) ?_; conv => whnf)
    | (refine enter_same (loop_n 12 ?_); conv => whnf)
    | (refine next_same ?_; conv => whnf)
    | (refine mapK_row (by assumption) ?_; conv => whnf)
    | (refine mapK_plain (Plain.of rfl) ?_; conv => whnf)
    | (refine mapK_lit ?_; conv => whnf)
    | (refine br_split (fun _ => ?_) (fun _ => ?_) <;> conv => whnf)
    | exact (rfl : (_ : Value) = _)
    | (simp only [*]; exact (rfl : (_ : Value) = _))
    | (simp [*]; done))

set_option maxHeartbeats 1000000 in
theorem c_Next_L {zs : List Int} {off n c : Nat} {o h m : Int} (hz : n ≤ zs.length) (hb : ∀ z ∈ zs, IsByte z) (hn : n ≤ 4096) (ha : SrcAt n o) : CallOK Try.prog n_spec_l01Next [.pointer (some ⟨1, 0, none⟩), ii m] [(away off (bl zs), none), ([.slice (some ⟨0, off, none⟩) n c, ii o, wv h], some t_spec_l01Source)] (fun v m_ => ∃ x o2 h2, Below1 m x ∧ SrcAt n o2 ∧ v = ii x ∧ m_ = [(away off (bl zs), none), ([.slice (some ⟨0, off, none⟩) n c, ii o2, wv h2], some t_spec_l01Source)]) := by
  refine callOK_ofF good fn_spec_l01Next ?_
  conv => whnf
  all_goals (repeat' first
    | (refine br_false (b := decide (m = 0)) (decide_eq_false ?_) ?_; (focus (have := of_decide_eq_false (show decide (m < 1) = false by assumption); omega)); conv => whnf)
    | (refine br_in ha.lo (of_decide_eq_true (show decide (o < (n : Int)) = true by assumption)) ?_; conv => whnf)
    | (refine force_eq (take_bl (xs := zs) (i := o.toNat) rfl ?_ ?_) ?_; (focus (simp only [Nat.mul_one]; done)); (focus (have := ha.lo; have := of_decide_eq_true (show decide (o < (n : Int)) = true by assumption); omega)); conv => whnf)
    | (show OutK _ _ _ _; rename decide (m < 1) = true => q0_; (exact out_forget [] ⟨_, _, _, below_zero (of_decide_eq_true q0_), ha, rfl, rfl⟩ rfl (okB2_spec rfl) ⟨⟨⟨_, rfl, .lit (away_conc (bl_plain _) _).symm rfl (away_ok (bl_plain _) _)⟩⟩, ⟨⟨_, rfl, .lit rfl rfl (fun v hv => okB0_spec (allL_spec rfl v hv))⟩⟩, trivial⟩ rfl rfl))
    | (show OutK _ _ _ _; rename decide (o < ((n : Nat) : Int)) = false => q0_; (exact out_forget [] ⟨_, _, _, below_mod (src_x _).1, ha, rfl, rfl⟩ rfl (okB2_spec rfl) ⟨⟨⟨_, rfl, .lit (away_conc (bl_plain _) _).symm rfl (away_ok (bl_plain _) _)⟩⟩, ⟨⟨_, rfl, .lit rfl rfl (fun v hv => okB0_spec (allL_spec rfl v hv))⟩⟩, trivial⟩ rfl rfl))
    | (show OutK _ _ _ _; rename decide (o < ((n : Nat) : Int)) = true => q0_; (exact out_forget [] ⟨_, _, _, below_mod (src_xb (byte_at hb (by have := ha.lo; have := of_decide_eq_true q0_; omega))), ha.next hn (of_decide_eq_true q0_), rfl, rfl⟩ rfl (okB2_spec rfl) ⟨⟨⟨_, rfl, .lit (away_conc (bl_plain _) _).symm rfl (away_ok (bl_plain _) _)⟩⟩, ⟨⟨_, rfl, .lit rfl rfl (fun v hv => okB0_spec (allL_spec rfl v hv))⟩⟩, trivial⟩ rfl rfl))
    | (refine StoreK.mk rfl ?_; conv => whnf)
    | exact join_same
    | exact (by assumption : (_ : Bool) = (_ : Bool))
    | (refine br_true (by assumption) ?_; conv => whnf)
    | (refine br_false (by assumption) ?_; conv => whnf)
    | (refine br_not ?_; conv => whnf)
    | (refine br_code ?_; conv => whnf)
    | (with_reducible refine br_and ?_; conv => whnf)
    | (with_reducible refine br_or ?_; conv => whnf)
    | (refine br_eq2 ?_; conv => whnf)
    | (refine draw_auto (by decide +kernel) ?_; conv => whnf)
    | (refine draw_asg (by decide +kernel) ?_; conv => whnf)
    | (refine draw_st (by decide +kernel) ?_; conv => whnf)
    | (refine draw_call (by decide +kernel) ?_; conv => whnf)
    | (refine enter_same (loop_n 12 ?_); conv => whnf)
    | (refine next_same ?_; conv => whnf)
    | (refine mapK_row (by assumption) ?_; conv => whnf)
    | (refine mapK_plain (Plain.of rfl) ?_; conv => whnf)
    | (refine mapK_lit ?_; conv => whnf)
    | (refine br_split (fun _ => ?_) (fun _ => ?_) <;> conv => whnf)
    | exact (rfl : (_ : Value) = _)
    | (simp only [*]; exact (rfl : (_ : Value) = _))
    | (simp [*]; done))

set_option maxHeartbeats 1000000 in
theorem c_From_N   : CallOK Try.prog n_spec_l01From [.slice none 0 0] [] (fun v m_ => ∃ h, v = .pointer (some ⟨0, 0, none⟩) ∧ m_ = [([.slice none 0 0, ii 0, wv h], some t_spec_l01Source)]) := by
  refine callOK_ofF good fn_spec_l01From ?_
  conv => whnf
  all_goals (repeat' first
    | (refine br_in hI.1 (of_decide_eq_true (show decide (i < (n : Int)) = true by assumption)) ?_; conv => whnf)
    | (refine force_eq (take_bl (xs := zs) (i := i.toNat) rfl ?_ ?_) ?_; (focus (simp only [Nat.mul_one]; done)); (focus (have := hI.1; have := of_decide_eq_true (show decide (i < (n : Int)) = true by assumption); omega)); conv => whnf)
    | (show OutK _ _ _ _; exact out_forget [_] ⟨_, rfl, rfl⟩ rfl (okB2_spec rfl) ⟨⟨⟨_, rfl, .lit rfl rfl (fun v hv => okB0_spec (allL_spec rfl v hv))⟩⟩, trivial⟩ rfl rfl)
    | (refine StoreK.mk rfl ?_; conv => whnf)
    | exact join_same
    | exact (by assumption : (_ : Bool) = (_ : Bool))
    | (refine br_true (by assumption) ?_; conv => whnf)
    | (refine br_false (by assumption) ?_; conv => whnf)
    | (refine br_not ?_; conv => whnf)
    | (refine br_code ?_; conv => whnf)
    | (with_reducible refine br_and ?_; conv => whnf)
    | (with_reducible refine br_or ?_; conv => whnf)
    | (refine br_eq2 ?_; conv => whnf)
    | (refine draw_auto (by decide +kernel) ?_; conv => whnf)
    | (refine draw_asg (by decide +kernel) ?_; conv => whnf)
    | (refine draw_st (by decide +kernel) ?_; conv => whnf)
    | (refine draw_call (by decide +kernel) ?_; conv => whnf)
    | (refine enter_same (loop_n 12 ?_); conv => whnf)
    | (refine next_same ?_; conv => whnf)
    | (refine mapK_row (by assumption) ?_; conv => whnf)
    | (refine mapK_plain (Plain.of rfl) ?_; conv => whnf)
    | (refine mapK_lit ?_; conv => whnf)
    | (refine br_split (fun _ => ?_) (fun _ => ?_) <;> conv => whnf)
    | exact (rfl : (_ : Value) = _)
    | (simp only [*]; exact (rfl : (_ : Value) = _))
    | (simp [*]; done))

set_option maxHeartbeats 1000000 in
theorem c_Next_N  {o h m : Int}  (ha : SrcAt 0 o) : CallOK Try.prog n_spec_l01Next [.pointer (some ⟨0, 0, none⟩), ii m] [([.slice none 0 0, ii o, wv h], some t_spec_l01Source)] (fun v m_ => ∃ x o2 h2, Below1 m x ∧ SrcAt 0 o2 ∧ v = ii x ∧ m_ = [([.slice none 0 0, ii o2, wv h2], some t_spec_l01Source)]) := by
  refine callOK_ofF good fn_spec_l01Next ?_
  conv => whnf
  all_goals (repeat' first
    | (refine br_false (b := decide (m = 0)) (decide_eq_false ?_) ?_; (focus (have := of_decide_eq_false (show decide (m < 1) = false by assumption); omega)); conv => whnf)
    | (refine br_in ha.lo (of_decide_eq_true (show decide (o < (n : Int)) = true by assumption)) ?_; conv => whnf)
    | (refine force_eq (take_bl (xs := zs) (i := o.toNat) rfl ?_ ?_) ?_; (focus (simp only [Nat.mul_one]; done)); (focus (have := ha.lo; have := of_decide_eq_true (show decide (o < (n : Int)) = true by assumption); omega)); conv => whnf)
    | (show OutK _ _ _ _; rename decide (m < 1) = true => q0_; (exact out_forget [] ⟨_, _, _, below_zero (of_decide_eq_true q0_), ha, rfl, rfl⟩ rfl (okB2_spec rfl) ⟨⟨⟨_, rfl, .lit rfl rfl (fun v hv => okB0_spec (allL_spec rfl v hv))⟩⟩, trivial⟩ rfl rfl))
    | (show OutK _ _ _ _; rename decide (o < ((0 : Nat) : Int)) = false => q0_; (exact out_forget [] ⟨_, _, _, below_mod (src_x _).1, ha, rfl, rfl⟩ rfl (okB2_spec rfl) ⟨⟨⟨_, rfl, .lit rfl rfl (fun v hv => okB0_spec (allL_spec rfl v hv))⟩⟩, trivial⟩ rfl rfl))
    | exact absurd (of_decide_eq_true (show decide (o < ((0 : Nat) : Int)) = true by assumption)) (by have := ha.lo; omega)
    | (refine StoreK.mk rfl ?_; conv => whnf)
    | exact join_same
    | exact (by assumption : (_ : Bool) = (_ : Bool))
    | (refine br_true (by assumption) ?_; conv => whnf)
    | (refine br_false (by assumption) ?_; conv => whnf)
    | (refine br_not ?_; conv => whnf)
    | (refine br_code ?_; conv => whnf)
    | (with_reducible refine br_and ?_; conv => whnf)
    | (with_reducible refine br_or ?_; conv => whnf)
    | (refine br_eq2 ?_; conv => whnf)
    | (refine draw_auto (by decide +kernel) ?_; conv => whnf)
    | (refine draw_asg (by decide +kernel) ?_; conv => whnf)
    | (refine draw_st (by decide +kernel) ?_; conv => whnf)
    | (refine draw_call (by decide +kernel) ?_; conv => whnf)
    | (refine enter_same (loop_n 12 ?_); conv => whnf)
    | (refine next_same ?_; conv => whnf)
    | (refine mapK_row (by assumption) ?_; conv => whnf)
    | (refine mapK_plain (Plain.of rfl) ?_; conv => whnf)
    | (refine mapK_lit ?_; conv => whnf)
    | (refine br_split (fun _ => ?_) (fun _ => ?_) <;> conv => whnf)
    | exact (rfl : (_ : Value) = _)
    | (simp only [*]; exact (rfl : (_ : Value) = _))
    | (simp [*]; done))

end Go.Proofs.Ytnjepaboecijcaa
end

section
/-
  Spots in tetrahedra: the parts have the volume of the whole just where the coordinates tell so. The plain law.
  Conditions: none.
-/
set_option linter.unusedVariables false
set_option linter.unusedSimpArgs false
namespace Go.Ev

def tvF (a b c d e f g h i x y z : Int) : Int := sizeF (volF (plusF d (-1) a) (plusF e (-1) b) (plusF f (-1) c) (plusF g (-1) a) (plusF h (-1) b) (plusF i (-1) c) (plusF x (-1) a) (plusF y (-1) b) (plusF z (-1) c))
def sm (a m : Int) : Prop := -m ≤ a ∧ a ≤ m

theorem sm_mul {x y m n : Int} (hx : sm x m) (hy : sm y n) (hm : 0 ≤ m) : sm (x * y) (m * n) := mul_abs hx.1 hx.2 hy.1 hy.2 hm
theorem volF_pt {a b c d e f g h i : Int} (ha : sm a 40) (hb : sm b 40) (hc : sm c 40) (hd : sm d 40) (he : sm e 40) (hf : sm f 40) (hg : sm g 40) (hh : sm h 40) (hi : sm i 40) :
    volF a b c d e f g h i = volP a b c d e f g h i ∧ sm (volP a b c d e f g h i) 384000 := by
  have h1 := sm_mul he hi (by omega); have h2 := sm_mul hf hh (by omega); have h3 := sm_mul hf hg (by omega); have h4 := sm_mul hd hi (by omega); have h5 := sm_mul hd hh (by omega); have h6 := sm_mul he hg (by omega)
  have k1 : sm (e * i - f * h) 3200 := by unfold sm at *; omega
  have k2 : sm (f * g - d * i) 3200 := by unfold sm at *; omega
  have k3 : sm (d * h - e * g) 3200 := by unfold sm at *; omega
  have l1 := sm_mul ha k1 (by omega); have l2 := sm_mul hb k2 (by omega); have l3 := sm_mul hc k3 (by omega)
  have hv : sm (volP a b c d e f g h i) 384000 := by unfold volP; unfold sm at *; omega
  refine ⟨?_, hv⟩
  rw [volF_eq]
  unfold sm at hv
  rw [w64_in (by omega) (by omega)]
theorem plus_pt {a b : Int} (ha : sm a 20) (hb : sm b 20) : plusF a (-1) b = a - b ∧ sm (a - b) 40 := by
  unfold sm at *
  rw [plusF_neg, w64_in (by omega) (by omega)]
  omega
theorem isSpF_iff {a b c : Int} : isSpF a b c = true ↔ sm a 20 ∧ sm b 20 ∧ sm c 20 := by
  unfold isSpF isSF inF sm
  simp only [Bool.and_eq_true, decide_eq_true_eq, ge_iff_le]
  omega
/-- The numbers of a tetrahedron's corners are small. -/
structure TetOk (a b c d e f g h i x y z : Int) : Prop where
  s0 : isSpF a b c = true
  s1 : isSpF d e f = true
  s2 : isSpF g h i = true
  s3 : isSpF x y z = true
theorem tv_eq {a b c d e f g h i x y z : Int} (k : TetOk a b c d e f g h i x y z) :
    tvF a b c d e f g h i x y z = (volP (d - a) (e - b) (f - c) (g - a) (h - b) (i - c) (x - a) (y - b) (z - c)).natAbs ∧ sm (volP (d - a) (e - b) (f - c) (g - a) (h - b) (i - c) (x - a) (y - b) (z - c)) 384000 := by
  obtain ⟨ha, hb, hc⟩ := isSpF_iff.1 k.s0
  obtain ⟨hd, he, hf⟩ := isSpF_iff.1 k.s1
  obtain ⟨hg, hh, hi⟩ := isSpF_iff.1 k.s2
  obtain ⟨hx, hy, hz⟩ := isSpF_iff.1 k.s3
  unfold tvF
  rw [(plus_pt hd ha).1, (plus_pt he hb).1, (plus_pt hf hc).1, (plus_pt hg ha).1, (plus_pt hh hb).1, (plus_pt hi hc).1, (plus_pt hx ha).1, (plus_pt hy hb).1, (plus_pt hz hc).1]
  have := volF_pt (plus_pt hd ha).2 (plus_pt he hb).2 (plus_pt hf hc).2 (plus_pt hg ha).2 (plus_pt hh hb).2 (plus_pt hi hc).2 (plus_pt hx ha).2 (plus_pt hy hb).2 (plus_pt hz hc).2
  refine ⟨?_, this.2⟩
  rw [this.1]
  have h2 := this.2
  unfold sm at h2
  unfold sizeF maxi
  rw [w64_in (by omega) (by omega)]
  split <;> omega

/-- The volumes of the four parts that (p, q, r) makes, together. -/
def partsF (a b c d e f g h i x y z p q r : Int) : Int :=
  w64 (w64 (w64 (w64 (0 + tvF p q r d e f g h i x y z) + tvF a b c p q r g h i x y z) + tvF a b c d e f p q r x y z) + tvF a b c d e f g h i p q r)
def hasF (a b c d e f g h i x y z p q r : Int) : Bool := decide (partsF a b c d e f g h i x y z p q r = tvF a b c d e f g h i x y z)
def rel (f : Int → Int → Int → Int → Int → Int → Int → Int → Int → Int → Int → Int → Int) (a b c d e f' g h i x y z p q r : Int) : Int :=
  f (plusF d (-1) a) (plusF e (-1) b) (plusF f' (-1) c) (plusF g (-1) a) (plusF h (-1) b) (plusF i (-1) c) (plusF x (-1) a) (plusF y (-1) b) (plusF z (-1) c) (plusF p (-1) a) (plusF q (-1) b) (plusF r (-1) c)
def insF (a b c d e f g h i x y z p q r : Int) : Bool :=
  decide (rel co0 a b c d e f g h i x y z p q r ≥ 0) && decide (rel co1 a b c d e f g h i x y z p q r ≥ 0) && decide (rel co2 a b c d e f g h i x y z p q r ≥ 0) &&
    decide (w64 (w64 (rel co0 a b c d e f g h i x y z p q r + rel co1 a b c d e f g h i x y z p q r) + rel co2 a b c d e f g h i x y z p q r) ≤ tvF a b c d e f g h i x y z)

theorem vol_parts (a b c d e f g h i p q r : Int) :
    volP (a - p) (b - q) (c - r) (d - p) (e - q) (f - r) (g - p) (h - q) (i - r) = volP a b c d e f g h i - volP p q r d e f g h i - volP a b c p q r g h i - volP a b c d e f p q r := by
  unfold volP; grind

theorem abs_parts (D v1 v2 v3 : Int) (s : Int) (hs : s = if D < 0 then -1 else 1) :
    ((D - v1 - v2 - v3).natAbs : Int) + v1.natAbs + v2.natAbs + v3.natAbs = D.natAbs ↔ (s * v1 ≥ 0 ∧ s * v2 ≥ 0 ∧ s * v3 ≥ 0) ∧ s * v1 + s * v2 + s * v3 ≤ D.natAbs := by
  subst hs
  split
  · simp only [Int.neg_mul, Int.one_mul]; omega
  · simp only [Int.one_mul]; omega

theorem has_ins {a b c d e f g h i x y z p q r : Int} (k : TetOk a b c d e f g h i x y z) (hp : isSpF p q r = true) : hasF a b c d e f g h i x y z p q r = insF a b c d e f g h i x y z p q r := by
  have t := tv_eq k
  have t0 := tv_eq (a := p) (b := q) (c := r) ⟨hp, k.s1, k.s2, k.s3⟩
  have t1 := tv_eq (d := p) (e := q) (f := r) ⟨k.s0, hp, k.s2, k.s3⟩
  have t2 := tv_eq (g := p) (h := q) (i := r) ⟨k.s0, k.s1, hp, k.s3⟩
  have t3 := tv_eq (x := p) (y := q) (z := r) ⟨k.s0, k.s1, k.s2, hp⟩
  obtain ⟨ha, hb, hc⟩ := isSpF_iff.1 k.s0
  obtain ⟨hd, he, hf⟩ := isSpF_iff.1 k.s1
  obtain ⟨hg, hh, hi⟩ := isSpF_iff.1 k.s2
  obtain ⟨hx, hy, hz⟩ := isSpF_iff.1 k.s3
  obtain ⟨hp0, hq0, hr0⟩ := isSpF_iff.1 hp
  have e0 : volP (d - p) (e - q) (f - r) (g - p) (h - q) (i - r) (x - p) (y - q) (z - r) =
      volP (d - a) (e - b) (f - c) (g - a) (h - b) (i - c) (x - a) (y - b) (z - c) - volP (p - a) (q - b) (r - c) (g - a) (h - b) (i - c) (x - a) (y - b) (z - c)
        - volP (d - a) (e - b) (f - c) (p - a) (q - b) (r - c) (x - a) (y - b) (z - c) - volP (d - a) (e - b) (f - c) (g - a) (h - b) (i - c) (p - a) (q - b) (r - c) := by
    rw [← vol_parts]
    congr 1 <;> omega
  rw [e0] at t0
  have vD := volF_pt (plus_pt hd ha).2 (plus_pt he hb).2 (plus_pt hf hc).2 (plus_pt hg ha).2 (plus_pt hh hb).2 (plus_pt hi hc).2 (plus_pt hx ha).2 (plus_pt hy hb).2 (plus_pt hz hc).2
  have v1 := volF_pt (plus_pt hp0 ha).2 (plus_pt hq0 hb).2 (plus_pt hr0 hc).2 (plus_pt hg ha).2 (plus_pt hh hb).2 (plus_pt hi hc).2 (plus_pt hx ha).2 (plus_pt hy hb).2 (plus_pt hz hc).2
  have v2 := volF_pt (plus_pt hd ha).2 (plus_pt he hb).2 (plus_pt hf hc).2 (plus_pt hp0 ha).2 (plus_pt hq0 hb).2 (plus_pt hr0 hc).2 (plus_pt hx ha).2 (plus_pt hy hb).2 (plus_pt hz hc).2
  have v3 := volF_pt (plus_pt hd ha).2 (plus_pt he hb).2 (plus_pt hf hc).2 (plus_pt hg ha).2 (plus_pt hh hb).2 (plus_pt hi hc).2 (plus_pt hp0 ha).2 (plus_pt hq0 hb).2 (plus_pt hr0 hc).2
  unfold hasF insF partsF rel co0 co1 co2
  rw [t.1, t0.1, t1.1, t2.1, t3.1, (plus_pt hd ha).1, (plus_pt he hb).1, (plus_pt hf hc).1, (plus_pt hg ha).1, (plus_pt hh hb).1, (plus_pt hi hc).1, (plus_pt hx ha).1, (plus_pt hy hb).1, (plus_pt hz hc).1,
    (plus_pt hp0 ha).1, (plus_pt hq0 hb).1, (plus_pt hr0 hc).1, vD.1, v1.1, v2.1, v3.1]
  have b0 := t0.2; have bD := vD.2; have b1 := v1.2; have b2 := v2.2; have b3 := v3.2
  clear t t0 t1 t2 t3 e0 vD v1 v2 v3
  generalize volP (d - a) (e - b) (f - c) (g - a) (h - b) (i - c) (x - a) (y - b) (z - c) = D at *
  generalize volP (p - a) (q - b) (r - c) (g - a) (h - b) (i - c) (x - a) (y - b) (z - c) = A1 at *
  generalize volP (d - a) (e - b) (f - c) (p - a) (q - b) (r - c) (x - a) (y - b) (z - c) = A2 at *
  generalize volP (d - a) (e - b) (f - c) (g - a) (h - b) (i - c) (p - a) (q - b) (r - c) = A3 at *
  unfold sm at b0 bD b1 b2 b3
  have key := abs_parts D A1 A2 A3 (sgF D) (by unfold sgF selF; by_cases hD : D < 0 <;> simp [hD])
  have hs : sgF D = -1 ∨ sgF D = 1 := by unfold sgF selF; by_cases hD : D < 0 <;> simp [hD]
  have c1 : w64 (sgF D * A1) = sgF D * A1 ∧ sm (sgF D * A1) 384000 := by rcases hs with hs | hs <;> rw [hs] <;> (unfold sm; rw [w64_in (by omega) (by omega)]; omega)
  have c2 : w64 (sgF D * A2) = sgF D * A2 ∧ sm (sgF D * A2) 384000 := by rcases hs with hs | hs <;> rw [hs] <;> (unfold sm; rw [w64_in (by omega) (by omega)]; omega)
  have c3 : w64 (sgF D * A3) = sgF D * A3 ∧ sm (sgF D * A3) 384000 := by rcases hs with hs | hs <;> rw [hs] <;> (unfold sm; rw [w64_in (by omega) (by omega)]; omega)
  rw [c1.1, c2.1, c3.1]
  have d1 := c1.2; have d2 := c2.2; have d3 := c3.2
  generalize sgF D * A1 = B1 at *
  generalize sgF D * A2 = B2 at *
  generalize sgF D * A3 = B3 at *
  unfold sm at d1 d2 d3
  rw [w64_in (n := B1 + B2) (by omega) (by omega), w64_in (n := B1 + B2 + B3) (by omega) (by omega)]
  rw [Int.zero_add, w64_in (n := ((D - A1 - A2 - A3).natAbs : Int)) (by omega) (by omega), w64_in (n := ((D - A1 - A2 - A3).natAbs : Int) + A1.natAbs) (by omega) (by omega),
    w64_in (n := ((D - A1 - A2 - A3).natAbs : Int) + A1.natAbs + A2.natAbs) (by omega) (by omega), w64_in (n := ((D - A1 - A2 - A3).natAbs : Int) + A1.natAbs + A2.natAbs + A3.natAbs) (by omega) (by omega)]
  rw [Bool.eq_iff_iff]
  simp only [Bool.and_eq_true, decide_eq_true_eq]
  rw [key]
  constructor
  · rintro ⟨⟨h1, h2, h3⟩, h4⟩; exact ⟨⟨⟨h1, h2⟩, h3⟩, h4⟩
  · rintro ⟨⟨⟨h1, h2⟩, h3⟩, h4⟩; exact ⟨⟨h1, h2, h3⟩, h4⟩

/-! ### Counting -/

def foldR (F : Int → Int → Int) : Nat → Int → Int → Int
  | 0, _, m => m
  | n + 1, z, m => foldR F n (z + 1) (F z m)
theorem foldR_congr {F G : Int → Int → Int} : ∀ (n : Nat) (z m : Int), (∀ k m, z ≤ k → k < z + n → F k m = G k m) → foldR F n z m = foldR G n z m
  | 0, _, _, _ => rfl
  | n + 1, z, m, h => by
    rw [foldR, foldR, h z m (by omega) (by omega)]
    exact foldR_congr n (z + 1) _ fun k m h1 h2 => h k m (by omega) (by omega)

def czF (p : Int → Int → Int → Bool) (lz hz x y m : Int) : Int := foldR (fun z m => if p x y z = true then w64 (m + 1) else m) (hz + 1 - lz).toNat lz m
def cyF (p : Int → Int → Int → Bool) (ly hy lz hz x m : Int) : Int := foldR (fun y m => czF p lz hz x y m) (hy + 1 - ly).toNat ly m
def cxF (p : Int → Int → Int → Bool) (lx hx ly hy lz hz m : Int) : Int := foldR (fun x m => cyF p ly hy lz hz x m) (hx + 1 - lx).toNat lx m

/-- The state of a loop that counts from lo to hi. -/
structure FoI (F : Int → Int → Int) (lo hi R z m : Int) : Prop where
  bl : -20 ≤ lo
  bh : hi ≤ 20
  zl : lo ≤ z
  zh : z ≤ hi + 1
  eq : foldR F (hi + 1 - z).toNat z m = R
theorem FoI.start {F : Int → Int → Int} {lo hi m : Int} (h1 : -20 ≤ lo) (h2 : hi ≤ 20) (h3 : lo ≤ hi) : FoI F lo hi (foldR F (hi + 1 - lo).toNat lo m) lo m := ⟨h1, h2, by omega, by omega, rfl⟩
theorem FoI.next {F : Int → Int → Int} {lo hi R z m m' : Int} (h : FoI F lo hi R z m) (hz : z ≤ hi) (hm : m' = F z m) : FoI F lo hi R (w64 (z + 1)) m' := by
  subst hm
  have h1 := h.bl; have h2 := h.bh; have h3 := h.zl
  rw [w64_in (by omega) (by omega)]
  refine ⟨h1, h2, by omega, by omega, ?_⟩
  rw [← h.eq, show (hi + 1 - z).toNat = (hi + 1 - (z + 1)).toNat + 1 by omega, foldR]
theorem FoI.mu {F : Int → Int → Int} {lo hi R z m : Int} (h : FoI F lo hi R z m) (hz : z ≤ hi) : (hi + 1 - w64 (z + 1)).toNat < (hi + 1 - z).toNat := by
  have h1 := h.bl; have h2 := h.bh; have h3 := h.zl
  rw [w64_in (by omega) (by omega)]; omega
theorem FoI.fin {F : Int → Int → Int} {lo hi R z m : Int} (h : FoI F lo hi R z m) (hz : ¬ z ≤ hi) : m = R := by
  have h1 := h.eq; have h3 := h.zh
  rw [show (hi + 1 - z).toNat = 0 by omega] at h1
  exact h1

theorem mini_self (a : Int) : mini a a = a := by unfold mini; split <;> rfl
theorem maxi_self (a : Int) : maxi a a = a := by unfold maxi; split <;> rfl
def lo4 (a d g x : Int) : Int := mini (mini (mini a d) g) x
def hi4 (a d g x : Int) : Int := maxi (maxi (maxi a d) g) x
theorem lohi {a d g x : Int} (h1 : sm a 20) (h2 : sm d 20) (h3 : sm g 20) (h4 : sm x 20) : -20 ≤ lo4 a d g x ∧ hi4 a d g x ≤ 20 ∧ lo4 a d g x ≤ hi4 a d g x := by
  unfold sm lo4 hi4 mini maxi at *
  split <;> split <;> split <;> split <;> split <;> split <;> omega
/-- How many spots of the smallest cuboid have the property. -/
def cntF (p : Int → Int → Int → Bool) (a b c d e f g h i x y z : Int) : Int :=
  cxF p (lo4 a d g x) (hi4 a d g x) (lo4 b e h y) (hi4 b e h y) (lo4 c f i z) (hi4 c f i z) 0
theorem TetOk.b0 {a b c d e f g h i x y z : Int} (k : TetOk a b c d e f g h i x y z) : -20 ≤ lo4 a d g x ∧ hi4 a d g x ≤ 20 ∧ lo4 a d g x ≤ hi4 a d g x :=
  lohi (isSpF_iff.1 k.s0).1 (isSpF_iff.1 k.s1).1 (isSpF_iff.1 k.s2).1 (isSpF_iff.1 k.s3).1
theorem TetOk.b1 {a b c d e f g h i x y z : Int} (k : TetOk a b c d e f g h i x y z) : -20 ≤ lo4 b e h y ∧ hi4 b e h y ≤ 20 ∧ lo4 b e h y ≤ hi4 b e h y :=
  lohi (isSpF_iff.1 k.s0).2.1 (isSpF_iff.1 k.s1).2.1 (isSpF_iff.1 k.s2).2.1 (isSpF_iff.1 k.s3).2.1
theorem TetOk.b2 {a b c d e f g h i x y z : Int} (k : TetOk a b c d e f g h i x y z) : -20 ≤ lo4 c f i z ∧ hi4 c f i z ≤ 20 ∧ lo4 c f i z ≤ hi4 c f i z :=
  lohi (isSpF_iff.1 k.s0).2.2 (isSpF_iff.1 k.s1).2.2 (isSpF_iff.1 k.s2).2.2 (isSpF_iff.1 k.s3).2.2
theorem cnt_same {a b c d e f g h i x y z : Int} (k : TetOk a b c d e f g h i x y z) : cntF (hasF a b c d e f g h i x y z) a b c d e f g h i x y z = cntF (insF a b c d e f g h i x y z) a b c d e f g h i x y z := by
  have h0 := k.b0; have h1 := k.b1; have h2 := k.b2
  unfold cntF cxF
  refine foldR_congr _ _ _ fun u m hu1 hu2 => ?_
  unfold cyF
  refine foldR_congr _ _ _ fun v m hv1 hv2 => ?_
  unfold czF
  refine foldR_congr _ _ _ fun w m hw1 hw2 => ?_
  rw [has_ins k (isSpF_iff.2 (by unfold sm; omega))]
def isTetF (a b c d e f g h i x y z : Int) : Bool := isSpF a b c && isSpF d e f && isSpF g h i && isSpF x y z && !decide (tvF a b c d e f g h i x y z = 0)
theorem tet_ok {a b c d e f g h i x y z : Int} (h1 : isTetF a b c d e f g h i x y z = true) : TetOk a b c d e f g h i x y z := by
  simp only [isTetF, Bool.and_eq_true] at h1
  exact ⟨h1.1.1.1.1, h1.1.1.1.2, h1.1.1.2, h1.1.2⟩

end Go.Ev
end

section
/-
  Contracts of functions of the program (printed by a program of this work; Lean checks each).
  Conditions: as each contract states.
-/
namespace Go.Proofs.Ytnjepaboecijcaa
open Go.Ev Go.RowKit
set_option maxRecDepth 100000
set_option linter.unusedVariables false
set_option linter.unusedSimpArgs false



end Go.Proofs.Ytnjepaboecijcaa
end

section
/-
  Contracts of functions of the program (printed by a program of this work; Lean checks each).
  Conditions: as each contract states.
-/
namespace Go.Proofs.Ytnjepaboecijcaa
open Go.Ev Go.RowKit
set_option maxRecDepth 100000
set_option linter.unusedVariables false
set_option linter.unusedSimpArgs false

set_option maxHeartbeats 1000000 in
theorem c_Pick_L {zs : List Int} {off n c : Nat} {o h : Int} {xs : List Int} (hz : n ≤ zs.length) (hb : ∀ z ∈ zs, IsByte z) (hn : n ≤ 4096) (ha : SrcAt n o) (hl : 1 ≤ xs.length) (hl2 : xs.length ≤ 100) : CallOK Try.prog n_spec_l01Pick [.pointer (some ⟨1, 0, none⟩), .slice (some ⟨2, 0, none⟩) xs.length xs.length] [(away off (bl zs), none), ([.slice (some ⟨0, off, none⟩) n c, ii o, wv h], some t_spec_l01Source), (il xs, none)] (fun v m_ => ∃ y o2 h2, SrcAt n o2 ∧ v = ii y ∧ m_ = [(away off (bl zs), none), ([.slice (some ⟨0, off, none⟩) n c, ii o2, wv h2], some t_spec_l01Source), (il xs, none)]) := by
  refine callOK_ofF good fn_spec_l01Pick ?_
  conv => whnf
  all_goals (repeat' first
    | (refine CallOK.useD (c_Next_L hz hb hn (by assumption)) [0, 1] rfl rfl rfl ⟨⟨⟨_, rfl, .lit (away_conc (bl_plain _) _).symm (fun _ h_ => by cases h_) (away_ok (bl_plain _) _)⟩⟩, ⟨⟨_, rfl, .lit rfl (fun _ h_ => h_) (fun v hv => okB0_spec (allL_spec rfl v hv))⟩⟩, trivial⟩ (fun v_ mem_ hR => ?_); obtain ⟨x_, o_, h_, hx_, ha_, rfl, rfl⟩ := hR; refine ⟨rfl, ii x_, fun _ => rfl, ?_⟩; (conv => whnf); refine mapK_eval (cs' := [.slice (some ⟨0, off, none⟩) n c, ii o_, wv h_]) rfl ?_; conv => whnf)
    | (refine br_in (i := x_) (n := xs.length) ?_ ?_ ?_; (focus (have := hx_ (by omega); omega)); (focus (have := hx_ (by omega); omega)); conv => whnf)
    | (refine force_eq (take_il0 (xs := xs) (i := x_.toNat) ?_ ?_) ?_; (focus (simp only [Nat.mul_one, Nat.zero_add]; done)); (focus (have := hx_ (by omega); omega)); conv => whnf)
    | (show OutK _ _ _ _; (exact out_forget [] ⟨_, _, _, ha_, rfl, rfl⟩ rfl (okB2_spec rfl) ⟨⟨⟨_, rfl, .lit (away_conc (bl_plain _) _).symm rfl (away_ok (bl_plain _) _)⟩⟩, ⟨⟨_, rfl, .lit rfl rfl (fun v hv => okB0_spec (allL_spec rfl v hv))⟩⟩, ⟨⟨_, rfl, .plain rfl rfl (il_plain _)⟩⟩, trivial⟩ rfl rfl))
    | (refine StoreK.mk rfl ?_; conv => whnf)
    | exact join_same
    | exact (by assumption : (_ : Bool) = (_ : Bool))
    | (refine br_true (by assumption) ?_; conv => whnf)
    | (refine br_false (by assumption) ?_; conv => whnf)
    | (refine br_not ?_; conv => whnf)
    | (refine br_code ?_; conv => whnf)
    | (with_reducible refine br_and ?_; conv => whnf)
    | (with_reducible refine br_or ?_; conv => whnf)
    | (refine br_eq2 ?_; conv => whnf)
    | (refine draw_auto (by decide +kernel) ?_; conv => whnf)
    | (refine draw_asg (by decide +kernel) ?_; conv => whnf)
    | (refine draw_st (by decide +kernel) ?_; conv => whnf)
    | (refine draw_call (by decide +kernel) ?_; conv => whnf)
    | (refine enter_same (loop_n 12 ?_); conv => whnf)
    | (refine next_same ?_; conv => whnf)
    | (refine mapK_row (by assumption) ?_; conv => whnf)
    | (refine mapK_plain (Plain.of rfl) ?_; conv => whnf)
    | (refine mapK_lit ?_; conv => whnf)
    | (refine br_split (fun _ => ?_) (fun _ => ?_) <;> conv => whnf)
    | exact (rfl : (_ : Value) = _)
    | (simp only [*]; exact (rfl : (_ : Value) = _))
    | (simp [*]; done))

set_option maxHeartbeats 1000000 in
theorem c_Pick_N  {o h : Int} {xs : List Int}  (ha : SrcAt 0 o) (hl : 1 ≤ xs.length) (hl2 : xs.length ≤ 100) : CallOK Try.prog n_spec_l01Pick [.pointer (some ⟨0, 0, none⟩), .slice (some ⟨1, 0, none⟩) xs.length xs.length] [([.slice none 0 0, ii o, wv h], some t_spec_l01Source), (il xs, none)] (fun v m_ => ∃ y o2 h2, SrcAt 0 o2 ∧ v = ii y ∧ m_ = [([.slice none 0 0, ii o2, wv h2], some t_spec_l01Source), (il xs, none)]) := by
  refine callOK_ofF good fn_spec_l01Pick ?_
  conv => whnf
  all_goals (repeat' first
    | (refine CallOK.useD (c_Next_N (by assumption)) [0] rfl rfl rfl ⟨⟨⟨_, rfl, .lit rfl (fun _ h_ => h_) (fun v hv => okB0_spec (allL_spec rfl v hv))⟩⟩, trivial⟩ (fun v_ mem_ hR => ?_); obtain ⟨x_, o_, h_, hx_, ha_, rfl, rfl⟩ := hR; refine ⟨rfl, ii x_, fun _ => rfl, ?_⟩; (conv => whnf); refine mapK_eval (cs' := [.slice none 0 0, ii o_, wv h_]) rfl ?_; conv => whnf)
    | (refine br_in (i := x_) (n := xs.length) ?_ ?_ ?_; (focus (have := hx_ (by omega); omega)); (focus (have := hx_ (by omega); omega)); conv => whnf)
    | (refine force_eq (take_il0 (xs := xs) (i := x_.toNat) ?_ ?_) ?_; (focus (simp only [Nat.mul_one, Nat.zero_add]; done)); (focus (have := hx_ (by omega); omega)); conv => whnf)
    | (show OutK _ _ _ _; (exact out_forget [] ⟨_, _, _, ha_, rfl, rfl⟩ rfl (okB2_spec rfl) ⟨⟨⟨_, rfl, .lit rfl rfl (fun v hv => okB0_spec (allL_spec rfl v hv))⟩⟩, ⟨⟨_, rfl, .plain rfl rfl (il_plain _)⟩⟩, trivial⟩ rfl rfl))
    | (refine StoreK.mk rfl ?_; conv => whnf)
    | exact join_same
    | exact (by assumption : (_ : Bool) = (_ : Bool))
    | (refine br_true (by assumption) ?_; conv => whnf)
    | (refine br_false (by assumption) ?_; conv => whnf)
    | (refine br_not ?_; conv => whnf)
    | (refine br_code ?_; conv => whnf)
    | (with_reducible refine br_and ?_; conv => whnf)
    | (with_reducible refine br_or ?_; conv => whnf)
    | (refine br_eq2 ?_; conv => whnf)
    | (refine draw_auto (by decide +kernel) ?_; conv => whnf)
    | (refine draw_asg (by decide +kernel) ?_; conv => whnf)
    | (refine draw_st (by decide +kernel) ?_; conv => whnf)
    | (refine draw_call (by decide +kernel) ?_; conv => whnf)
    | (refine enter_same (loop_n 12 ?_); conv => whnf)
    | (refine next_same ?_; conv => whnf)
    | (refine mapK_row (by assumption) ?_; conv => whnf)
    | (refine mapK_plain (Plain.of rfl) ?_; conv => whnf)
    | (refine mapK_lit ?_; conv => whnf)
    | (refine br_split (fun _ => ?_) (fun _ => ?_) <;> conv => whnf)
    | exact (rfl : (_ : Value) = _)
    | (simp only [*]; exact (rfl : (_ : Value) = _))
    | (simp [*]; done))

end Go.Proofs.Ytnjepaboecijcaa
end

section
/-
  Draws of points, matrices and corners: what is told of them, so that the draws' loops end. Conditions: none.
-/
set_option linter.unusedVariables false
set_option linter.unusedSimpArgs false
namespace Go.Ev
open Go.RowKit

theorem draw_sm {m x y : Int} (hx : Below1 (w64 (w64 (2 * m) + 1)) x) (hy : Below1 (w64 (w64 (2 * m) + 1)) y) : 1 ≤ m → m ≤ 900 → sm (w64 (x - m)) 900 ∧ sm (w64 (y - m)) 900 := by
  intro h1 h2
  unfold Below1 at hx hy
  rw [w64_in (n := 2 * m) (by omega) (by omega), w64_in (n := 2 * m + 1) (by omega) (by omega)] at hx hy
  have := hx (by omega); have := hy (by omega)
  unfold sm
  rw [w64_in (n := x - m) (by omega) (by omega), w64_in (n := y - m) (by omega) (by omega)]
  omega
theorem nz_a {x y : Int} (h : decide (x = 0) = false) : ¬ (x = 0 ∧ y = 0) := fun h1 => of_decide_eq_false h h1.1
theorem nz_b {x y : Int} (h : decide (y = 0) = false) : ¬ (x = 0 ∧ y = 0) := fun h1 => of_decide_eq_false h h1.2
theorem part_g {a b : Int} (h : sm a 900 ∧ sm b 900) : gcdF a b = (Int.gcd a b : Int) := by
  obtain ⟨h1, h2⟩ := h
  unfold sm at h1 h2
  exact gcdF_eq (by omega) (by omega)
theorem part_nz {a b : Int} (h : sm a 900 ∧ sm b 900) (h0 : ¬ (a = 0 ∧ b = 0)) : decide (gcdF a b = 0) = false := by
  obtain ⟨h1, h2⟩ := h
  unfold sm at h1 h2
  exact decide_eq_false fun he => h0 ((gcdF_zero (by omega) (by omega)).1 he)
/-- A point that is not none, with small numbers. -/
structure Prm (x y : Int) : Prop where
  sx : sm x 900
  sy : sm y 900
  nz : ¬ (x = 0 ∧ y = 0)
theorem prm_10 : Prm 1 0 := ⟨by unfold sm; omega, by unfold sm; omega, by omega⟩
theorem part_ok {a b : Int} (h : sm a 900 ∧ sm b 900) (h0 : ¬ (a = 0 ∧ b = 0)) : Prm (w64 (a.tdiv (gcdF a b))) (w64 (b.tdiv (gcdF a b))) := by
  rw [part_g h]
  obtain ⟨h1, h2⟩ := h
  unfold sm at h1 h2
  have hg : ((Int.gcd a b : Nat) : Int) ≠ 0 := by
    intro he
    have : Int.gcd a b = 0 := by omega
    exact h0 (Int.gcd_eq_zero_iff.1 this)
  have e1 : ((Int.gcd a b : Nat) : Int) ∣ a := Int.gcd_dvd_left ..
  have e2 : ((Int.gcd a b : Nat) : Int) ∣ b := Int.gcd_dvd_right ..
  generalize ((Int.gcd a b : Nat) : Int) = g at *
  obtain ⟨p, rfl⟩ := e1
  obtain ⟨q, rfl⟩ := e2
  rw [Int.mul_tdiv_cancel_left _ hg, Int.mul_tdiv_cancel_left _ hg]
  have bp : p.natAbs ≤ (g * p).natAbs := by
    rw [Int.natAbs_mul]
    have : 1 * p.natAbs ≤ g.natAbs * p.natAbs := Nat.mul_le_mul_right _ (by omega)
    omega
  have bq : q.natAbs ≤ (g * q).natAbs := by
    rw [Int.natAbs_mul]
    have : 1 * q.natAbs ≤ g.natAbs * q.natAbs := Nat.mul_le_mul_right _ (by omega)
    omega
  rw [w64_in (by omega) (by omega), w64_in (by omega) (by omega)]
  refine ⟨by unfold sm; omega, by unfold sm; omega, fun h => h0 ?_⟩
  rw [h.1, h.2]; simp
theorem most_in {y : Int} (h : y ∈ [3, 5, 9, 30, 900]) : 1 ≤ y ∧ y ≤ 900 := by
  simp only [List.mem_cons, List.not_mem_nil, or_false] at h
  omega
theorem sq_nn (a : Int) : 0 ≤ a * a := by
  rcases Int.le_total 0 a with h | h
  · exact Int.mul_nonneg h h
  · exact Int.mul_nonneg_of_nonpos_of_nonpos h h
/-- One turn makes the determinant other than 0. -/
theorem turn_nz {a b : Int} (h : Prm a b) : detF a b (w64 (0 - b)) a ≠ 0 := by
  obtain ⟨h1, h2, h3⟩ := h
  have h4 := sm_mul h1 h1 (by omega); have h5 := sm_mul h2 h2 (by omega)
  unfold sm at h1 h2 h4 h5
  rw [w64_in (n := 0 - b) (by omega) (by omega)]
  unfold detF
  have e : b * (0 - b) = -(b * b) := by rw [Int.mul_sub]; omega
  rw [e, w64_in (n := a * a) (by omega) (by omega), w64_in (n := -(b * b)) (by omega) (by omega), w64_in (by omega) (by omega)]
  have p1 : 0 ≤ a * a := sq_nn a
  have p2 : 0 ≤ b * b := sq_nn b
  intro he
  have q1 : a * a = 0 := by omega
  have q2 : b * b = 0 := by omega
  exact h3 ⟨by rcases Int.mul_eq_zero.1 q1 with h | h <;> exact h, by rcases Int.mul_eq_zero.1 q2 with h | h <;> exact h⟩
def detMu (a b c d : Int) : Nat := if detF a b c d = 0 then 1 else 0
theorem turn_mu {a b c d : Int} (h : Prm a b) (h0 : decide (detF a b c d = 0) = true) : detMu a b (w64 (0 - b)) a < detMu a b c d := by
  unfold detMu
  rw [if_pos (of_decide_eq_true h0), if_neg (turn_nz h)]
  omega
/-- A sine and a cosine that may be none. -/
structure ScI (s c : Int) : Prop where
  s1 : 1 ≤ s
  s2 : s ≤ 40
  c1 : 1 ≤ c
  c2 : c ≤ s
theorem ScI.start {x : Int} (h : Below1 40 x) : ScI (w64 (1 + x)) 1 := by
  have := h (by omega)
  rw [w64_in (by omega) (by omega)]
  exact ⟨by omega, by omega, by omega, by omega⟩
theorem ScI.nz {s c : Int} (h : ScI s c) : decide (s = 0) = false := decide_eq_false (by have := h.s1; omega)
theorem ScI.next {s c : Int} (h : ScI s c) : ScI s (w64 (c.tmod s + 1)) := by
  obtain ⟨h1, h2, h3, h4⟩ := h
  rw [tmod_pos (by omega)]
  have := Int.emod_nonneg c (show s ≠ 0 by omega)
  have := Int.emod_lt_of_pos c (show 0 < s by omega)
  rw [w64_in (by omega) (by omega)]
  exact ⟨by omega, by omega, by omega, by omega⟩
theorem ScI.down {s c : Int} (h : ScI s c) (hg : decide (gcdF s c = 1) = false) : ScI s (w64 (c - 1)) ∧ (w64 (c - 1)).toNat < c.toNat := by
  obtain ⟨h1, h2, h3, h4⟩ := h
  have : c ≠ 1 := by
    rintro rfl
    refine of_decide_eq_false hg ?_
    rw [gcdF_eq (by omega) (by omega), Int.gcd_one]; rfl
  rw [w64_in (by omega) (by omega)]
  exact ⟨⟨by omega, by omega, by omega, by omega⟩, by omega⟩
theorem cnt_down {n : Int} {B : Int} (hB : B ≤ 1000) (h : 0 ≤ n ∧ n ≤ B) (h0 : decide (n > 0) = true) : (0 ≤ w64 (n - 1) ∧ w64 (n - 1) ≤ B) ∧ (w64 (n - 1)).toNat < n.toNat := by
  have := of_decide_eq_true h0
  rw [w64_in (by omega) (by omega)]
  omega
theorem two_of {x : Int} (h : Below1 2 x) : x = 0 ∨ x = 1 := by
  have := h (by omega)
  omega

end Go.Ev
end

section
/-
  Contracts of functions of the program (printed by a program of this work; Lean checks each).
  Conditions: as each contract states.
-/
namespace Go.Proofs.Ytnjepaboecijcaa
open Go.Ev Go.RowKit
set_option maxRecDepth 100000
set_option linter.unusedVariables false
set_option linter.unusedSimpArgs false

set_option maxHeartbeats 1000000 in
theorem c_PickM_L {zs : List Int} {off n c : Nat} {o h : Int} {xs : List Int} (hz : n ≤ zs.length) (hb : ∀ z ∈ zs, IsByte z) (hn : n ≤ 4096) (ha : SrcAt n o) (hl : 1 ≤ xs.length) (hl2 : xs.length ≤ 100) : CallOK Try.prog n_spec_l01Pick [.pointer (some ⟨1, 0, none⟩), .slice (some ⟨2, 0, none⟩) xs.length xs.length] [(away off (bl zs), none), ([.slice (some ⟨0, off, none⟩) n c, ii o, wv h], some t_spec_l01Source), (il xs, none)] (fun v m_ => ∃ y o2 h2, y ∈ xs ∧ SrcAt n o2 ∧ v = ii y ∧ m_ = [(away off (bl zs), none), ([.slice (some ⟨0, off, none⟩) n c, ii o2, wv h2], some t_spec_l01Source), (il xs, none)]) := by
  refine callOK_ofF good fn_spec_l01Pick ?_
  conv => whnf
  all_goals (repeat' first
    | (refine CallOK.useD (c_Next_L hz hb hn (by assumption)) [0, 1] rfl rfl rfl ⟨⟨⟨_, rfl, .lit (away_conc (bl_plain _) _).symm (fun _ h_ => by cases h_) (away_ok (bl_plain _) _)⟩⟩, ⟨⟨_, rfl, .lit rfl (fun _ h_ => h_) (fun v hv => okB0_spec (allL_spec rfl v hv))⟩⟩, trivial⟩ (fun v_ mem_ hR => ?_); obtain ⟨x_, o_, h_, hx_, ha_, rfl, rfl⟩ := hR; refine ⟨rfl, ii x_, fun _ => rfl, ?_⟩; (conv => whnf); refine mapK_eval (cs' := [.slice (some ⟨0, off, none⟩) n c, ii o_, wv h_]) rfl ?_; conv => whnf)
    | (refine br_in (i := x_) (n := xs.length) ?_ ?_ ?_; (focus (have := hx_ (by omega); omega)); (focus (have := hx_ (by omega); omega)); conv => whnf)
    | (refine force_eq (take_il0 (xs := xs) (i := x_.toNat) ?_ ?_) ?_; (focus (simp only [Nat.mul_one, Nat.zero_add]; done)); (focus (have := hx_ (by omega); omega)); conv => whnf)
    | (show OutK _ _ _ _; have hy_ : xs.getD x_.toNat 0 ∈ xs := (getD_mem (show x_.toNat < xs.length from (by have := hx_ (by omega); omega))); (exact out_forget [] ⟨_, _, _, hy_, ha_, rfl, rfl⟩ rfl (okB2_spec rfl) ⟨⟨⟨_, rfl, .lit (away_conc (bl_plain _) _).symm rfl (away_ok (bl_plain _) _)⟩⟩, ⟨⟨_, rfl, .lit rfl rfl (fun v hv => okB0_spec (allL_spec rfl v hv))⟩⟩, ⟨⟨_, rfl, .plain rfl rfl (il_plain _)⟩⟩, trivial⟩ rfl rfl))
    | (refine StoreK.mk rfl ?_; conv => whnf)
    | exact join_same
    | exact (by assumption : (_ : Bool) = (_ : Bool))
    | (refine br_true (by assumption) ?_; conv => whnf)
    | (refine br_false (by assumption) ?_; conv => whnf)
    | (refine br_not ?_; conv => whnf)
    | (refine br_code ?_; conv => whnf)
    | (with_reducible refine br_and ?_; conv => whnf)
    | (with_reducible refine br_or ?_; conv => whnf)
    | (refine br_eq2 ?_; conv => whnf)
    | (refine draw_auto (by decide +kernel) ?_; conv => whnf)
    | (refine draw_asg (by decide +kernel) ?_; conv => whnf)
    | (refine draw_st (by decide +kernel) ?_; conv => whnf)
    | (refine draw_call (by decide +kernel) ?_; conv => whnf)
    | (refine enter_same (loop_n 12 ?_); conv => whnf)
    | (refine next_same ?_; conv => whnf)
    | (refine mapK_row (by assumption) ?_; conv => whnf)
    | (refine mapK_plain (Plain.of rfl) ?_; conv => whnf)
    | (refine mapK_lit ?_; conv => whnf)
    | (refine br_split (fun _ => ?_) (fun _ => ?_) <;> conv => whnf)
    | exact (rfl : (_ : Value) = _)
    | (simp only [*]; exact (rfl : (_ : Value) = _))
    | (simp [*]; done))

set_option maxHeartbeats 1000000 in
theorem c_DrawPoint_L {zs : List Int} {off n c : Nat} {o h m : Int} (hz : n ≤ zs.length) (hb : ∀ z ∈ zs, IsByte z) (hn : n ≤ 4096) (ha : SrcAt n o) : CallOK Try.prog n_spec_l01DrawPoint [.pointer (some ⟨1, 0, none⟩), ii m] [(away off (bl zs), none), ([.slice (some ⟨0, off, none⟩) n c, ii o, wv h], some t_spec_l01Source)] (fun v m_ => ∃ x y o2 h2, (1 ≤ m → m ≤ 900 → sm x 900 ∧ sm y 900) ∧ SrcAt n o2 ∧ v = pt x y ∧ m_ = [(away off (bl zs), none), ([.slice (some ⟨0, off, none⟩) n c, ii o2, wv h2], some t_spec_l01Source)]) := by
  refine callOK_ofF good fn_spec_l01DrawPoint ?_
  conv => whnf
  all_goals (repeat' first
    | (refine CallOK.useD (c_Next_L hz hb hn (by assumption)) [0, 1] rfl rfl rfl ⟨⟨⟨_, rfl, .lit (away_conc (bl_plain _) _).symm (fun _ h_ => by cases h_) (away_ok (bl_plain _) _)⟩⟩, ⟨⟨_, rfl, .lit rfl (fun _ h_ => h_) (fun v hv => okB0_spec (allL_spec rfl v hv))⟩⟩, trivial⟩ (fun v_ mem_ hR => ?_); obtain ⟨x1_, o_, h_, hx1_, ha_, rfl, rfl⟩ := hR; refine ⟨rfl, ii x1_, fun _ => rfl, ?_⟩; (conv => whnf); refine mapK_eval (cs' := [.slice (some ⟨0, off, none⟩) n c, ii o_, wv h_]) rfl ?_; conv => whnf)
    | (show OutK _ _ _ _; (exact out_forget [] ⟨_, _, _, _, draw_sm (by assumption) (by assumption), ha_, rfl, rfl⟩ rfl (okB2_spec rfl) ⟨⟨⟨_, rfl, .lit (away_conc (bl_plain _) _).symm rfl (away_ok (bl_plain _) _)⟩⟩, ⟨⟨_, rfl, .lit rfl rfl (fun v hv => okB0_spec (allL_spec rfl v hv))⟩⟩, trivial⟩ rfl rfl))
    | (refine StoreK.mk rfl ?_; conv => whnf)
    | exact join_same
    | exact (by assumption : (_ : Bool) = (_ : Bool))
    | (refine br_true (by assumption) ?_; conv => whnf)
    | (refine br_false (by assumption) ?_; conv => whnf)
    | (refine br_not ?_; conv => whnf)
    | (refine br_code ?_; conv => whnf)
    | (with_reducible refine br_and ?_; conv => whnf)
    | (with_reducible refine br_or ?_; conv => whnf)
    | (refine br_eq2 ?_; conv => whnf)
    | (refine draw_auto (by decide +kernel) ?_; conv => whnf)
    | (refine draw_asg (by decide +kernel) ?_; conv => whnf)
    | (refine draw_st (by decide +kernel) ?_; conv => whnf)
    | (refine draw_call (by decide +kernel) ?_; conv => whnf)
    | (refine enter_same (loop_n 12 ?_); conv => whnf)
    | (refine next_same ?_; conv => whnf)
    | (refine mapK_row (by assumption) ?_; conv => whnf)
    | (refine mapK_plain (Plain.of rfl) ?_; conv => whnf)
    | (refine mapK_lit ?_; conv => whnf)
    | (refine br_split (fun _ => ?_) (fun _ => ?_) <;> conv => whnf)
    | exact (rfl : (_ : Value) = _)
    | (simp only [*]; exact (rfl : (_ : Value) = _))
    | (simp [*]; done))

set_option maxHeartbeats 1000000 in
theorem c_PickM_N  {o h : Int} {xs : List Int}  (ha : SrcAt 0 o) (hl : 1 ≤ xs.length) (hl2 : xs.length ≤ 100) : CallOK Try.prog n_spec_l01Pick [.pointer (some ⟨0, 0, none⟩), .slice (some ⟨1, 0, none⟩) xs.length xs.length] [([.slice none 0 0, ii o, wv h], some t_spec_l01Source), (il xs, none)] (fun v m_ => ∃ y o2 h2, y ∈ xs ∧ SrcAt 0 o2 ∧ v = ii y ∧ m_ = [([.slice none 0 0, ii o2, wv h2], some t_spec_l01Source), (il xs, none)]) := by
  refine callOK_ofF good fn_spec_l01Pick ?_
  conv => whnf
  all_goals (repeat' first
    | (refine CallOK.useD (c_Next_N (by assumption)) [0] rfl rfl rfl ⟨⟨⟨_, rfl, .lit rfl (fun _ h_ => h_) (fun v hv => okB0_spec (allL_spec rfl v hv))⟩⟩, trivial⟩ (fun v_ mem_ hR => ?_); obtain ⟨x_, o_, h_, hx_, ha_, rfl, rfl⟩ := hR; refine ⟨rfl, ii x_, fun _ => rfl, ?_⟩; (conv => whnf); refine mapK_eval (cs' := [.slice none 0 0, ii o_, wv h_]) rfl ?_; conv => whnf)
    | (refine br_in (i := x_) (n := xs.length) ?_ ?_ ?_; (focus (have := hx_ (by omega); omega)); (focus (have := hx_ (by omega); omega)); conv => whnf)
    | (refine force_eq (take_il0 (xs := xs) (i := x_.toNat) ?_ ?_) ?_; (focus (simp only [Nat.mul_one, Nat.zero_add]; done)); (focus (have := hx_ (by omega); omega)); conv => whnf)
    | (show OutK _ _ _ _; have hy_ : xs.getD x_.toNat 0 ∈ xs := (getD_mem (show x_.toNat < xs.length from (by have := hx_ (by omega); omega))); (exact out_forget [] ⟨_, _, _, hy_, ha_, rfl, rfl⟩ rfl (okB2_spec rfl) ⟨⟨⟨_, rfl, .lit rfl rfl (fun v hv => okB0_spec (allL_spec rfl v hv))⟩⟩, ⟨⟨_, rfl, .plain rfl rfl (il_plain _)⟩⟩, trivial⟩ rfl rfl))
    | (refine StoreK.mk rfl ?_; conv => whnf)
    | exact join_same
    | exact (by assumption : (_ : Bool) = (_ : Bool))
    | (refine br_true (by assumption) ?_; conv => whnf)
    | (refine br_false (by assumption) ?_; conv => whnf)
    | (refine br_not ?_; conv => whnf)
    | (refine br_code ?_; conv => whnf)
    | (with_reducible refine br_and ?_; conv => whnf)
    | (with_reducible refine br_or ?_; conv => whnf)
    | (refine br_eq2 ?_; conv => whnf)
    | (refine draw_auto (by decide +kernel) ?_; conv => whnf)
    | (refine draw_asg (by decide +kernel) ?_; conv => whnf)
    | (refine draw_st (by decide +kernel) ?_; conv => whnf)
    | (refine draw_call (by decide +kernel) ?_; conv => whnf)
    | (refine enter_same (loop_n 12 ?_); conv => whnf)
    | (refine next_same ?_; conv => whnf)
    | (refine mapK_row (by assumption) ?_; conv => whnf)
    | (refine mapK_plain (Plain.of rfl) ?_; conv => whnf)
    | (refine mapK_lit ?_; conv => whnf)
    | (refine br_split (fun _ => ?_) (fun _ => ?_) <;> conv => whnf)
    | exact (rfl : (_ : Value) = _)
    | (simp only [*]; exact (rfl : (_ : Value) = _))
    | (simp [*]; done))

set_option maxHeartbeats 1000000 in
theorem c_DrawPoint_N  {o h m : Int}  (ha : SrcAt 0 o) : CallOK Try.prog n_spec_l01DrawPoint [.pointer (some ⟨0, 0, none⟩), ii m] [([.slice none 0 0, ii o, wv h], some t_spec_l01Source)] (fun v m_ => ∃ x y o2 h2, (1 ≤ m → m ≤ 900 → sm x 900 ∧ sm y 900) ∧ SrcAt 0 o2 ∧ v = pt x y ∧ m_ = [([.slice none 0 0, ii o2, wv h2], some t_spec_l01Source)]) := by
  refine callOK_ofF good fn_spec_l01DrawPoint ?_
  conv => whnf
  all_goals (repeat' first
    | (refine CallOK.useD (c_Next_N (by assumption)) [0] rfl rfl rfl ⟨⟨⟨_, rfl, .lit rfl (fun _ h_ => h_) (fun v hv => okB0_spec (allL_spec rfl v hv))⟩⟩, trivial⟩ (fun v_ mem_ hR => ?_); obtain ⟨x1_, o_, h_, hx1_, ha_, rfl, rfl⟩ := hR; refine ⟨rfl, ii x1_, fun _ => rfl, ?_⟩; (conv => whnf); refine mapK_eval (cs' := [.slice none 0 0, ii o_, wv h_]) rfl ?_; conv => whnf)
    | (show OutK _ _ _ _; (exact out_forget [] ⟨_, _, _, _, draw_sm (by assumption) (by assumption), ha_, rfl, rfl⟩ rfl (okB2_spec rfl) ⟨⟨⟨_, rfl, .lit rfl rfl (fun v hv => okB0_spec (allL_spec rfl v hv))⟩⟩, trivial⟩ rfl rfl))
    | (refine StoreK.mk rfl ?_; conv => whnf)
    | exact join_same
    | exact (by assumption : (_ : Bool) = (_ : Bool))
    | (refine br_true (by assumption) ?_; conv => whnf)
    | (refine br_false (by assumption) ?_; conv => whnf)
    | (refine br_not ?_; conv => whnf)
    | (refine br_code ?_; conv => whnf)
    | (with_reducible refine br_and ?_; conv => whnf)
    | (with_reducible refine br_or ?_; conv => whnf)
    | (refine br_eq2 ?_; conv => whnf)
    | (refine draw_auto (by decide +kernel) ?_; conv => whnf)
    | (refine draw_asg (by decide +kernel) ?_; conv => whnf)
    | (refine draw_st (by decide +kernel) ?_; conv => whnf)
    | (refine draw_call (by decide +kernel) ?_; conv => whnf)
    | (refine enter_same (loop_n 12 ?_); conv => whnf)
    | (refine next_same ?_; conv => whnf)
    | (refine mapK_row (by assumption) ?_; conv => whnf)
    | (refine mapK_plain (Plain.of rfl) ?_; conv => whnf)
    | (refine mapK_lit ?_; conv => whnf)
    | (refine br_split (fun _ => ?_) (fun _ => ?_) <;> conv => whnf)
    | exact (rfl : (_ : Value) = _)
    | (simp only [*]; exact (rfl : (_ : Value) = _))
    | (simp [*]; done))

set_option maxHeartbeats 1000000 in
theorem c_DrawPrim_L {zs : List Int} {off n c : Nat} {o h m : Int} (hz : n ≤ zs.length) (hb : ∀ z ∈ zs, IsByte z) (hn : n ≤ 4096) (ha : SrcAt n o) (hm1 : 1 ≤ m) (hm2 : m ≤ 900) : CallOK Try.prog n_spec_l01DrawPrimitive [.pointer (some ⟨1, 0, none⟩), ii m] [(away off (bl zs), none), ([.slice (some ⟨0, off, none⟩) n c, ii o, wv h], some t_spec_l01Source)] (fun v m_ => ∃ x y o2 h2, Prm x y ∧ SrcAt n o2 ∧ v = pt x y ∧ m_ = [(away off (bl zs), none), ([.slice (some ⟨0, off, none⟩) n c, ii o2, wv h2], some t_spec_l01Source)]) := by
  refine callOK_ofF good fn_spec_l01DrawPrimitive ?_
  conv => whnf
  all_goals (repeat' first
    | (refine part_nz (hp_ hm1 hm2) (nz_a ?_); assumption)
    | (refine part_nz (hp_ hm1 hm2) (nz_b ?_); assumption)
    | (refine CallOK.useD (c_DrawPoint_L hz hb hn (by assumption)) [0, 1] rfl rfl rfl ⟨⟨⟨_, rfl, .lit (away_conc (bl_plain _) _).symm (fun _ h_ => by cases h_) (away_ok (bl_plain _) _)⟩⟩, ⟨⟨_, rfl, .lit rfl (fun _ h_ => h_) (fun v hv => okB0_spec (allL_spec rfl v hv))⟩⟩, trivial⟩ (fun v_ mem_ hR => ?_); obtain ⟨px_, py_, o_, h_, hp_, ha_, rfl, rfl⟩ := hR; refine ⟨rfl, pt px_ py_, fun _ => rfl, ?_⟩; (conv => whnf); refine mapK_eval (cs' := [.slice (some ⟨0, off, none⟩) n c, ii o_, wv h_]) rfl ?_; conv => whnf)
    | (show OutK _ _ _ _; rename decide (py_ = 0) = true => q0_; (exact out_forget [] ⟨_, _, _, _, prm_10, ha_, rfl, rfl⟩ rfl (okB2_spec rfl) ⟨⟨⟨_, rfl, .lit (away_conc (bl_plain _) _).symm rfl (away_ok (bl_plain _) _)⟩⟩, ⟨⟨_, rfl, .lit rfl rfl (fun v hv => okB0_spec (allL_spec rfl v hv))⟩⟩, trivial⟩ rfl rfl))
    | (show OutK _ _ _ _; rename decide (px_ = 0) = false => q0_; (exact out_forget [] ⟨_, _, _, _, part_ok (hp_ hm1 hm2) (nz_a q0_), ha_, rfl, rfl⟩ rfl (okB2_spec rfl) ⟨⟨⟨_, rfl, .lit (away_conc (bl_plain _) _).symm rfl (away_ok (bl_plain _) _)⟩⟩, ⟨⟨_, rfl, .lit rfl rfl (fun v hv => okB0_spec (allL_spec rfl v hv))⟩⟩, trivial⟩ rfl rfl))
    | (show OutK _ _ _ _; rename decide (py_ = 0) = false => q0_; (exact out_forget [] ⟨_, _, _, _, part_ok (hp_ hm1 hm2) (nz_b q0_), ha_, rfl, rfl⟩ rfl (okB2_spec rfl) ⟨⟨⟨_, rfl, .lit (away_conc (bl_plain _) _).symm rfl (away_ok (bl_plain _) _)⟩⟩, ⟨⟨_, rfl, .lit rfl rfl (fun v hv => okB0_spec (allL_spec rfl v hv))⟩⟩, trivial⟩ rfl rfl))
    | (refine StoreK.mk rfl ?_; conv => whnf)
    | exact join_same
    | exact (by assumption : (_ : Bool) = (_ : Bool))
    | (refine br_true (by assumption) ?_; conv => whnf)
    | (refine br_false (by assumption) ?_; conv => whnf)
    | (refine br_not ?_; conv => whnf)
    | (refine br_code ?_; conv => whnf)
    | (with_reducible refine br_and ?_; conv => whnf)
    | (with_reducible refine br_or ?_; conv => whnf)
    | (refine br_eq2 ?_; conv => whnf)
    | (refine (c_spec_l01Part ?_).call ?_ <;> conv => whnf)
    | (refine (c_spec_l01Part ?_).quiet ?_ <;> conv => whnf)
    | (refine draw_auto (by decide +kernel) ?_; conv => whnf)
    | (refine draw_asg (by decide +kernel) ?_; conv => whnf)
    | (refine draw_st (by decide +kernel) ?_; conv => whnf)
    | (refine draw_call (by decide +kernel) ?_; conv => whnf)
    | (refine enter_same (loop_n 12 ?_); conv => whnf)
    | (refine next_same ?_; conv => whnf)
    | (refine mapK_row (by assumption) ?_; conv => whnf)
    | (refine mapK_plain (Plain.of rfl) ?_; conv => whnf)
    | (refine mapK_lit ?_; conv => whnf)
    | (refine br_split (fun _ => ?_) (fun _ => ?_) <;> conv => whnf)
    | exact (rfl : (_ : Value) = _)
    | (simp only [*]; exact (rfl : (_ : Value) = _))
    | (simp [*]; done))

theorem c_Size_L {zs : List Int} {off n c : Nat} {o h : Int} (hz : n ≤ zs.length) (hb : ∀ z ∈ zs, IsByte z) (hn : n ≤ 4096) (ha : SrcAt n o) : CallOK Try.prog n_spec_l01Size [.pointer (some ⟨1, 0, none⟩)] [(away off (bl zs), none), ([.slice (some ⟨0, off, none⟩) n c, ii o, wv h], some t_spec_l01Source)] (fun v m_ => ∃ y o2 h2, SrcAt n o2 ∧ v = ii y ∧ m_ = [(away off (bl zs), none), ([.slice (some ⟨0, off, none⟩) n c, ii o2, wv h2], some t_spec_l01Source)]) := by
  refine callOK_ofF good fn_spec_l01Size ?_
  conv => whnf
  all_goals (repeat' first
    | (refine CallOK.useD (c_Pick_L (xs := [3, 6, 12, 100, 1000, 1000000]) hz hb hn (by assumption) (by decide) (by decide)) [0, 1, 2] rfl rfl rfl ⟨⟨⟨_, rfl, .lit (away_conc (bl_plain _) _).symm (fun _ h_ => by cases h_) (away_ok (bl_plain _) _)⟩⟩, ⟨⟨_, rfl, .lit rfl (fun _ h_ => h_) (fun v hv => okB0_spec (allL_spec rfl v hv))⟩⟩, ⟨⟨_, rfl, .plain rfl (fun _ h_ => by cases h_) (il_plain _)⟩⟩, trivial⟩ (fun v_ mem_ hR => ?_); obtain ⟨y_, o_, h_, ha_, rfl, rfl⟩ := hR; refine ⟨rfl, ii y_, fun _ => rfl, ?_⟩; (conv => whnf); refine mapK_eval (cs' := [.slice (some ⟨0, off, none⟩) n c, ii o_, wv h_]) rfl ?_; conv => whnf)
    | (show OutK _ _ _ _; (exact out_forget [] ⟨_, _, _, ha_, rfl, rfl⟩ rfl (okB2_spec rfl) ⟨⟨⟨_, rfl, .lit (away_conc (bl_plain _) _).symm rfl (away_ok (bl_plain _) _)⟩⟩, ⟨⟨_, rfl, .lit rfl rfl (fun v hv => okB0_spec (allL_spec rfl v hv))⟩⟩, trivial⟩ rfl rfl))
    | (refine StoreK.mk rfl ?_; conv => whnf)
    | exact join_same
    | exact (by assumption : (_ : Bool) = (_ : Bool))
    | (refine br_true (by assumption) ?_; conv => whnf)
    | (refine br_false (by assumption) ?_; conv => whnf)
    | (refine br_not ?_; conv => whnf)
    | (refine br_code ?_; conv => whnf)
    | (with_reducible refine br_and ?_; conv => whnf)
    | (with_reducible refine br_or ?_; conv => whnf)
    | (refine br_eq2 ?_; conv => whnf)
    | (refine draw_auto (by decide +kernel) ?_; conv => whnf)
    | (refine draw_asg (by decide +kernel) ?_; conv => whnf)
    | (refine draw_st (by decide +kernel) ?_; conv => whnf)
    | (refine draw_call (by decide +kernel) ?_; conv => whnf)
    | (refine enter_same (loop_n 12 ?_); conv => whnf)
    | (refine next_same ?_; conv => whnf)
    | (refine mapK_row (by assumption) ?_; conv => whnf)
    | (refine mapK_plain (Plain.of rfl) ?_; conv => whnf)
    | (refine mapK_lit ?_; conv => whnf)
    | (refine br_split (fun _ => ?_) (fun _ => ?_) <;> conv => whnf)
    | exact (rfl : (_ : Value) = _)
    | (simp only [*]; exact (rfl : (_ : Value) = _))
    | (simp [*]; done))

set_option maxHeartbeats 1000000 in
theorem c_DrawUnit_L {zs : List Int} {off n c : Nat} {o h : Int} (hz : n ≤ zs.length) (hb : ∀ z ∈ zs, IsByte z) (hn : n ≤ 4096) (ha : SrcAt n o) : CallOK Try.prog n_spec_l01DrawUnit [.pointer (some ⟨1, 0, none⟩)] [(away off (bl zs), none), ([.slice (some ⟨0, off, none⟩) n c, ii o, wv h], some t_spec_l01Source)] (fun v m_ => ∃ a1 a2 a3 a4 o2 h2, SrcAt n o2 ∧ v = q4 a1 a2 a3 a4 ∧ m_ = [(away off (bl zs), none), ([.slice (some ⟨0, off, none⟩) n c, ii o2, wv h2], some t_spec_l01Source)]) := by
  refine callOK_ofF good fn_spec_l01DrawUnit ?_
  conv => whnf
  all_goals (repeat' first
    | (refine CallOK.useD (c_Next_L hz hb hn hI1.1) [0, 1] rfl rfl rfl ⟨⟨⟨_, rfl, .lit (away_conc (bl_plain _) _).symm (fun _ h_ => by cases h_) (away_ok (bl_plain _) _)⟩⟩, ⟨⟨_, rfl, .lit rfl (fun _ h_ => h_) (fun v hv => okB0_spec (allL_spec rfl v hv))⟩⟩, trivial⟩ (fun v_ mem_ hR => ?_); obtain ⟨x_, o_, h_, hx_, ha_, rfl, rfl⟩ := hR; refine ⟨rfl, ii x_, fun _ => rfl, ?_⟩; (conv => whnf); refine mapK_eval (cs' := [.slice (some ⟨0, off, none⟩) n c, ii o_, wv h_]) rfl ?_; conv => whnf)
    | (refine CallOK.useD (c_Next_L hz hb hn (by assumption)) [0, 1] rfl rfl rfl ⟨⟨⟨_, rfl, .lit (away_conc (bl_plain _) _).symm (fun _ h_ => by cases h_) (away_ok (bl_plain _) _)⟩⟩, ⟨⟨_, rfl, .lit rfl (fun _ h_ => h_) (fun v hv => okB0_spec (allL_spec rfl v hv))⟩⟩, trivial⟩ (fun v_ mem_ hR => ?_); obtain ⟨x_, o_, h_, hx_, ha_, rfl, rfl⟩ := hR; refine ⟨rfl, ii x_, fun _ => rfl, ?_⟩; (conv => whnf); refine mapK_eval (cs' := [.slice (some ⟨0, off, none⟩) n c, ii o_, wv h_]) rfl ?_; conv => whnf)
    | (refine enter_forget [2, 3] (loop_rec (fun (s : Int × Int × Int × Int × Int × Int × Int) => match s with | (n_, o2, h2, a1, a2, a3, a4) => [.pointer (some ⟨1, 0, none⟩), wild, .pointer (some ⟨2, 0, none⟩), .pointer (some ⟨3, 0, none⟩), ii n_, wild, wild, wild, wild, wild, wild, wild, wild, wild, wild, wild, wild, wild, wild, wild, wild, wild, wild, wild, wild, wild, wild, wild, wild, wild, wild, wild, wild, wild, wild, wild, wild, wild, wild, wild, wild, wild]) (fun (s : Int × Int × Int × Int × Int × Int × Int) => match s with | (n_, o2, h2, a1, a2, a3, a4) => [(away off (bl zs), none), ([.slice (some ⟨0, off, none⟩) n c, ii o2, wv h2], some t_spec_l01Source), (ti49.zero, some 49), ([ii a1, ii a2, ii a3, ii a4], some 49)]) (fun (s : Int × Int × Int × Int × Int × Int × Int) => match s with | (n_, o2, h2, a1, a2, a3, a4) => n_.toNat) (fun (s : Int × Int × Int × Int × Int × Int × Int) => match s with | (n_, o2, h2, a1, a2, a3, a4) => SrcAt n o2 ∧ 0 ≤ n_ ∧ n_ ≤ 4) (x_, o_, h_, 1, 0, 0, 1) ⟨ha_, by have := hx_ (by omega); omega⟩ ?_) (tmR_rfl rfl rfl) ⟨⟨⟨_, rfl, .lit (away_conc (bl_plain _) _).symm rfl (away_ok (bl_plain _) _)⟩⟩, ⟨⟨_, rfl, .lit rfl rfl (fun v hv => okB0_spec (allL_spec rfl v hv))⟩⟩, ⟨⟨_, rfl, .plain rfl rfl (by first | exact Plain.of rfl | exact Row.all (by assumption))⟩⟩, ⟨⟨_, rfl, .plain rfl rfl (by first | exact Plain.of rfl | exact Row.all (by assumption))⟩⟩, trivial⟩ rfl rfl; rintro fuel_1 ⟨n_, o2, h2, a1, a2, a3, a4⟩ hI1 IH1; replace hI1 : SrcAt n o2 ∧ 0 ≤ n_ ∧ n_ ≤ 4 := hI1; conv => whnf)
    | exact next_forget [2, 3] (IH1 (w64 (n_ - 1), _, _, _, _, _, _) ⟨ha_, (cnt_down (by omega) hI1.2 (by assumption)).1⟩ (cnt_down (by omega) hI1.2 (by assumption)).2) (tmR_rfl rfl rfl) ⟨⟨⟨_, rfl, .lit (away_conc (bl_plain _) _).symm rfl (away_ok (bl_plain _) _)⟩⟩, ⟨⟨_, rfl, .lit rfl rfl (fun v hv => okB0_spec (allL_spec rfl v hv))⟩⟩, ⟨⟨_, rfl, .plain rfl rfl (by first | exact Plain.of rfl | exact Row.all (by assumption))⟩⟩, ⟨⟨_, rfl, .plain rfl rfl (by first | exact Plain.of rfl | exact Row.all (by assumption))⟩⟩, trivial⟩ rfl rfl
    | (show OutK _ _ _ _; (exact out_forget [] ⟨_, _, _, _, _, _, hI1.1, rfl, rfl⟩ rfl (okB2_spec rfl) ⟨⟨⟨_, rfl, .lit (away_conc (bl_plain _) _).symm rfl (away_ok (bl_plain _) _)⟩⟩, ⟨⟨_, rfl, .lit rfl rfl (fun v hv => okB0_spec (allL_spec rfl v hv))⟩⟩, trivial⟩ rfl rfl))
    | (refine StoreK.mk rfl ?_; conv => whnf)
    | exact join_same
    | exact (by assumption : (_ : Bool) = (_ : Bool))
    | (refine br_true (by assumption) ?_; conv => whnf)
    | (refine br_false (by assumption) ?_; conv => whnf)
    | (refine br_not ?_; conv => whnf)
    | (refine br_code ?_; conv => whnf)
    | (with_reducible refine br_and ?_; conv => whnf)
    | (with_reducible refine br_or ?_; conv => whnf)
    | (refine br_eq2 ?_; conv => whnf)
    | (refine c_spec_l01Times.call ?_; conv => whnf)
    | (refine c_spec_l01Times.quiet ?_; conv => whnf)
    | (refine draw_auto (by decide +kernel) ?_; conv => whnf)
    | (refine draw_asg (by decide +kernel) ?_; conv => whnf)
    | (refine draw_st (by decide +kernel) ?_; conv => whnf)
    | (refine draw_call (by decide +kernel) ?_; conv => whnf)
    | (refine enter_same (loop_n 12 ?_); conv => whnf)
    | (refine next_same ?_; conv => whnf)
    | (refine mapK_row (by assumption) ?_; conv => whnf)
    | (refine mapK_plain (Plain.of rfl) ?_; conv => whnf)
    | (refine mapK_lit ?_; conv => whnf)
    | (refine br_split (fun _ => ?_) (fun _ => ?_) <;> conv => whnf)
    | exact (rfl : (_ : Value) = _)
    | (simp only [*]; exact (rfl : (_ : Value) = _))
    | (simp [*]; done))

set_option maxHeartbeats 1000000 in
theorem c_DrawPrim_N  {o h m : Int}  (ha : SrcAt 0 o) (hm1 : 1 ≤ m) (hm2 : m ≤ 900) : CallOK Try.prog n_spec_l01DrawPrimitive [.pointer (some ⟨0, 0, none⟩), ii m] [([.slice none 0 0, ii o, wv h], some t_spec_l01Source)] (fun v m_ => ∃ x y o2 h2, Prm x y ∧ SrcAt 0 o2 ∧ v = pt x y ∧ m_ = [([.slice none 0 0, ii o2, wv h2], some t_spec_l01Source)]) := by
  refine callOK_ofF good fn_spec_l01DrawPrimitive ?_
  conv => whnf
  all_goals (repeat' first
    | (refine part_nz (hp_ hm1 hm2) (nz_a ?_); assumption)
    | (refine part_nz (hp_ hm1 hm2) (nz_b ?_); assumption)
    | (refine CallOK.useD (c_DrawPoint_N (by assumption)) [0] rfl rfl rfl ⟨⟨⟨_, rfl, .lit rfl (fun _ h_ => h_) (fun v hv => okB0_spec (allL_spec rfl v hv))⟩⟩, trivial⟩ (fun v_ mem_ hR => ?_); obtain ⟨px_, py_, o_, h_, hp_, ha_, rfl, rfl⟩ := hR; refine ⟨rfl, pt px_ py_, fun _ => rfl, ?_⟩; (conv => whnf); refine mapK_eval (cs' := [.slice none 0 0, ii o_, wv h_]) rfl ?_; conv => whnf)
    | (show OutK _ _ _ _; rename decide (py_ = 0) = true => q0_; (exact out_forget [] ⟨_, _, _, _, prm_10, ha_, rfl, rfl⟩ rfl (okB2_spec rfl) ⟨⟨⟨_, rfl, .lit rfl rfl (fun v hv => okB0_spec (allL_spec rfl v hv))⟩⟩, trivial⟩ rfl rfl))
    | (show OutK _ _ _ _; rename decide (px_ = 0) = false => q0_; (exact out_forget [] ⟨_, _, _, _, part_ok (hp_ hm1 hm2) (nz_a q0_), ha_, rfl, rfl⟩ rfl (okB2_spec rfl) ⟨⟨⟨_, rfl, .lit rfl rfl (fun v hv => okB0_spec (allL_spec rfl v hv))⟩⟩, trivial⟩ rfl rfl))
    | (show OutK _ _ _ _; rename decide (py_ = 0) = false => q0_; (exact out_forget [] ⟨_, _, _, _, part_ok (hp_ hm1 hm2) (nz_b q0_), ha_, rfl, rfl⟩ rfl (okB2_spec rfl) ⟨⟨⟨_, rfl, .lit rfl rfl (fun v hv => okB0_spec (allL_spec rfl v hv))⟩⟩, trivial⟩ rfl rfl))
    | (refine StoreK.mk rfl ?_; conv => whnf)
    | exact join_same
    | exact (by assumption : (_ : Bool) = (_ : Bool))
    | (refine br_true (by assumption) ?_; conv => whnf)
    | (refine br_false (by assumption) ?_; conv => whnf)
    | (refine br_not ?_; conv => whnf)
    | (refine br_code ?_; conv => whnf)
    | (with_reducible refine br_and ?_; conv => whnf)
    | (with_reducible refine br_or ?_; conv => whnf)
    | (refine br_eq2 ?_; conv => whnf)
    | (refine (c_spec_l01Part ?_).call ?_ <;> conv => whnf)
    | (refine (c_spec_l01Part ?_).quiet ?_ <;> conv => whnf)
    | (refine draw_auto (by decide +kernel) ?_; conv => whnf)
    | (refine draw_asg (by decide +kernel) ?_; conv => whnf)
    | (refine draw_st (by decide +kernel) ?_; conv => whnf)
    | (refine draw_call (by decide +kernel) ?_; conv => whnf)
    | (refine enter_same (loop_n 12 ?_); conv => whnf)
    | (refine next_same ?_; conv => whnf)
    | (refine mapK_row (by assumption) ?_; conv => whnf)
    | (refine mapK_plain (Plain.of rfl) ?_; conv => whnf)
    | (refine mapK_lit ?_; conv => whnf)
    | (refine br_split (fun _ => ?_) (fun _ => ?_) <;> conv => whnf)
    | exact (rfl : (_ : Value) = _)
    | (simp only [*]; exact (rfl : (_ : Value) = _))
    | (simp [*]; done))

theorem c_Size_N  {o h : Int}  (ha : SrcAt 0 o) : CallOK Try.prog n_spec_l01Size [.pointer (some ⟨0, 0, none⟩)] [([.slice none 0 0, ii o, wv h], some t_spec_l01Source)] (fun v m_ => ∃ y o2 h2, SrcAt 0 o2 ∧ v = ii y ∧ m_ = [([.slice none 0 0, ii o2, wv h2], some t_spec_l01Source)]) := by
  refine callOK_ofF good fn_spec_l01Size ?_
  conv => whnf
  all_goals (repeat' first
    | (refine CallOK.useD (c_Pick_N (xs := [3, 6, 12, 100, 1000, 1000000]) (by assumption) (by decide) (by decide)) [0, 1] rfl rfl rfl ⟨⟨⟨_, rfl, .lit rfl (fun _ h_ => h_) (fun v hv => okB0_spec (allL_spec rfl v hv))⟩⟩, ⟨⟨_, rfl, .plain rfl (fun _ h_ => by cases h_) (il_plain _)⟩⟩, trivial⟩ (fun v_ mem_ hR => ?_); obtain ⟨y_, o_, h_, ha_, rfl, rfl⟩ := hR; refine ⟨rfl, ii y_, fun _ => rfl, ?_⟩; (conv => whnf); refine mapK_eval (cs' := [.slice none 0 0, ii o_, wv h_]) rfl ?_; conv => whnf)
    | (show OutK _ _ _ _; (exact out_forget [] ⟨_, _, _, ha_, rfl, rfl⟩ rfl (okB2_spec rfl) ⟨⟨⟨_, rfl, .lit rfl rfl (fun v hv => okB0_spec (allL_spec rfl v hv))⟩⟩, trivial⟩ rfl rfl))
    | (refine StoreK.mk rfl ?_; conv => whnf)
    | exact join_same
    | exact (by assumption : (_ : Bool) = (_ : Bool))
    | (refine br_true (by assumption) ?_; conv => whnf)
    | (refine br_false (by assumption) ?_; conv => whnf)
    | (refine br_not ?_; conv => whnf)
    | (refine br_code ?_; conv => whnf)
    | (with_reducible refine br_and ?_; conv => whnf)
    | (with_reducible refine br_or ?_; conv => whnf)
    | (refine br_eq2 ?_; conv => whnf)
    | (refine draw_auto (by decide +kernel) ?_; conv => whnf)
    | (refine draw_asg (by decide +kernel) ?_; conv => whnf)
    | (refine draw_st (by decide +kernel) ?_; conv => whnf)
    | (refine draw_call (by decide +kernel) ?_; conv => whnf)
    | (refine enter_same (loop_n 12 ?_); conv => whnf)
    | (refine next_same ?_; conv => whnf)
    | (refine mapK_row (by assumption) ?_; conv => whnf)
    | (refine mapK_plain (Plain.of rfl) ?_; conv => whnf)
    | (refine mapK_lit ?_; conv => whnf)
    | (refine br_split (fun _ => ?_) (fun _ => ?_) <;> conv => whnf)
    | exact (rfl : (_ : Value) = _)
    | (simp only [*]; exact (rfl : (_ : Value) = _))
    | (simp [*]; done))

set_option maxHeartbeats 1000000 in
theorem c_DrawUnit_N  {o h : Int}  (ha : SrcAt 0 o) : CallOK Try.prog n_spec_l01DrawUnit [.pointer (some ⟨0, 0, none⟩)] [([.slice none 0 0, ii o, wv h], some t_spec_l01Source)] (fun v m_ => ∃ a1 a2 a3 a4 o2 h2, SrcAt 0 o2 ∧ v = q4 a1 a2 a3 a4 ∧ m_ = [([.slice none 0 0, ii o2, wv h2], some t_spec_l01Source)]) := by
  refine callOK_ofF good fn_spec_l01DrawUnit ?_
  conv => whnf
  all_goals (repeat' first
    | (refine CallOK.useD (c_Next_N hI1.1) [0] rfl rfl rfl ⟨⟨⟨_, rfl, .lit rfl (fun _ h_ => h_) (fun v hv => okB0_spec (allL_spec rfl v hv))⟩⟩, trivial⟩ (fun v_ mem_ hR => ?_); obtain ⟨x_, o_, h_, hx_, ha_, rfl, rfl⟩ := hR; refine ⟨rfl, ii x_, fun _ => rfl, ?_⟩; (conv => whnf); refine mapK_eval (cs' := [.slice none 0 0, ii o_, wv h_]) rfl ?_; conv => whnf)
    | (refine CallOK.useD (c_Next_N (by assumption)) [0] rfl rfl rfl ⟨⟨⟨_, rfl, .lit rfl (fun _ h_ => h_) (fun v hv => okB0_spec (allL_spec rfl v hv))⟩⟩, trivial⟩ (fun v_ mem_ hR => ?_); obtain ⟨x_, o_, h_, hx_, ha_, rfl, rfl⟩ := hR; refine ⟨rfl, ii x_, fun _ => rfl, ?_⟩; (conv => whnf); refine mapK_eval (cs' := [.slice none 0 0, ii o_, wv h_]) rfl ?_; conv => whnf)
    | (refine enter_forget [1, 2] (loop_rec (fun (s : Int × Int × Int × Int × Int × Int × Int) => match s with | (n_, o2, h2, a1, a2, a3, a4) => [.pointer (some ⟨0, 0, none⟩), wild, .pointer (some ⟨1, 0, none⟩), .pointer (some ⟨2, 0, none⟩), ii n_, wild, wild, wild, wild, wild, wild, wild, wild, wild, wild, wild, wild, wild, wild, wild, wild, wild, wild, wild, wild, wild, wild, wild, wild, wild, wild, wild, wild, wild, wild, wild, wild, wild, wild, wild, wild, wild]) (fun (s : Int × Int × Int × Int × Int × Int × Int) => match s with | (n_, o2, h2, a1, a2, a3, a4) => [([.slice none 0 0, ii o2, wv h2], some t_spec_l01Source), (ti49.zero, some 49), ([ii a1, ii a2, ii a3, ii a4], some 49)]) (fun (s : Int × Int × Int × Int × Int × Int × Int) => match s with | (n_, o2, h2, a1, a2, a3, a4) => n_.toNat) (fun (s : Int × Int × Int × Int × Int × Int × Int) => match s with | (n_, o2, h2, a1, a2, a3, a4) => SrcAt 0 o2 ∧ 0 ≤ n_ ∧ n_ ≤ 4) (x_, o_, h_, 1, 0, 0, 1) ⟨ha_, by have := hx_ (by omega); omega⟩ ?_) (tmR_rfl rfl rfl) ⟨⟨⟨_, rfl, .lit rfl rfl (fun v hv => okB0_spec (allL_spec rfl v hv))⟩⟩, ⟨⟨_, rfl, .plain rfl rfl (by first | exact Plain.of rfl | exact Row.all (by assumption))⟩⟩, ⟨⟨_, rfl, .plain rfl rfl (by first | exact Plain.of rfl | exact Row.all (by assumption))⟩⟩, trivial⟩ rfl rfl; rintro fuel_1 ⟨n_, o2, h2, a1, a2, a3, a4⟩ hI1 IH1; replace hI1 : SrcAt 0 o2 ∧ 0 ≤ n_ ∧ n_ ≤ 4 := hI1; conv => whnf)
    | exact next_forget [1, 2] (IH1 (w64 (n_ - 1), _, _, _, _, _, _) ⟨ha_, (cnt_down (by omega) hI1.2 (by assumption)).1⟩ (cnt_down (by omega) hI1.2 (by assumption)).2) (tmR_rfl rfl rfl) ⟨⟨⟨_, rfl, .lit rfl rfl (fun v hv => okB0_spec (allL_spec rfl v hv))⟩⟩, ⟨⟨_, rfl, .plain rfl rfl (by first | exact Plain.of rfl | exact Row.all (by assumption))⟩⟩, ⟨⟨_, rfl, .plain rfl rfl (by first | exact Plain.of rfl | exact Row.all (by assumption))⟩⟩, trivial⟩ rfl rfl
    | (show OutK _ _ _ _; (exact out_forget [] ⟨_, _, _, _, _, _, hI1.1, rfl, rfl⟩ rfl (okB2_spec rfl) ⟨⟨⟨_, rfl, .lit rfl rfl (fun v hv => okB0_spec (allL_spec rfl v hv))⟩⟩, trivial⟩ rfl rfl))
    | (refine StoreK.mk rfl ?_; conv => whnf)
    | exact join_same
    | exact (by assumption : (_ : Bool) = (_ : Bool))
    | (refine br_true (by assumption) ?_; conv => whnf)
    | (refine br_false (by assumption) ?_; conv => whnf)
    | (refine br_not ?_; conv => whnf)
    | (refine br_code ?_; conv => whnf)
    | (with_reducible refine br_and ?_; conv => whnf)
    | (with_reducible refine br_or ?_; conv => whnf)
    | (refine br_eq2 ?_; conv => whnf)
    | (refine c_spec_l01Times.call ?_; conv => whnf)
    | (refine c_spec_l01Times.quiet ?_; conv => whnf)
    | (refine draw_auto (by decide +kernel) ?_; conv => whnf)
    | (refine draw_asg (by decide +kernel) ?_; conv => whnf)
    | (refine draw_st (by decide +kernel) ?_; conv => whnf)
    | (refine draw_call (by decide +kernel) ?_; conv => whnf)
    | (refine enter_same (loop_n 12 ?_); conv => whnf)
    | (refine next_same ?_; conv => whnf)
    | (refine mapK_row (by assumption) ?_; conv => whnf)
    | (refine mapK_plain (Plain.of rfl) ?_; conv => whnf)
    | (refine mapK_lit ?_; conv => whnf)
    | (refine br_split (fun _ => ?_) (fun _ => ?_) <;> conv => whnf)
    | exact (rfl : (_ : Value) = _)
    | (simp only [*]; exact (rfl : (_ : Value) = _))
    | (simp [*]; done))

end Go.Proofs.Ytnjepaboecijcaa
end

section
/-
  Contracts of functions of the program (printed by a program of this work; Lean checks each).
  Conditions: as each contract states.
-/
namespace Go.Proofs.Ytnjepaboecijcaa
open Go.Ev Go.RowKit
set_option maxRecDepth 100000
set_option linter.unusedVariables false
set_option linter.unusedSimpArgs false

set_option maxHeartbeats 16000000 in
theorem c_AnyMatrix_L {zs : List Int} {off n c : Nat} {o h : Int} (hz : n ≤ zs.length) (hb : ∀ z ∈ zs, IsByte z) (hn : n ≤ 4096) (ha : SrcAt n o) : CallOK Try.prog n_spec_l01AnyMatrix [.pointer (some ⟨1, 0, none⟩)] [(away off (bl zs), none), ([.slice (some ⟨0, off, none⟩) n c, ii o, wv h], some t_spec_l01Source)] (fun v m_ => ∃ a1 a2 a3 a4 o2 h2, SrcAt n o2 ∧ v = q4 a1 a2 a3 a4 ∧ m_ = [(away off (bl zs), none), ([.slice (some ⟨0, off, none⟩) n c, ii o2, wv h2], some t_spec_l01Source)]) := by
  refine callOK_ofF good fn_spec_l01AnyMatrix ?_
  conv => whnf
  all_goals (repeat' first
    | (refine draw_pt (.take 0 (.take 2 (.take 4 (.duo 1 (.take 7 (.duo 3 (.solo 5 (.solo 6 (.take 8 (.solo 9 .done)))) 5 (.solo 3 (.solo 6 (.take 8 (.solo 9 .done)))))) 5 (.solo 1 (.take 7 (.solo 3 (.solo 6 (.take 8 (.solo 9 .done)))))))))) (by decide +kernel) ?_; conv => whnf)
    | (refine And.intro ?_ ?_ <;> conv => whnf)
    | (refine CallOK.useD (c_Next_L hz hb hn (by assumption)) [0, 1] rfl rfl rfl ⟨⟨⟨_, rfl, .lit (away_conc (bl_plain _) _).symm (fun _ h_ => by cases h_) (away_ok (bl_plain _) _)⟩⟩, ⟨⟨_, rfl, .lit rfl (fun _ h_ => h_) (fun v hv => okB0_spec (allL_spec rfl v hv))⟩⟩, trivial⟩ (fun v_ mem_ hR => ?_); obtain ⟨x_, o_, h_, hx_, ha_, rfl, rfl⟩ := hR; refine ⟨rfl, ii x_, fun _ => rfl, ?_⟩; (conv => whnf); refine mapK_eval (cs' := [.slice (some ⟨0, off, none⟩) n c, ii o_, wv h_]) rfl ?_; conv => whnf)
    | (refine CallOK.useD (c_DrawUnit_L hz hb hn (by assumption)) [0, 1] rfl rfl rfl ⟨⟨⟨_, rfl, .lit (away_conc (bl_plain _) _).symm (fun _ h_ => by cases h_) (away_ok (bl_plain _) _)⟩⟩, ⟨⟨_, rfl, .lit rfl (fun _ h_ => h_) (fun v hv => okB0_spec (allL_spec rfl v hv))⟩⟩, trivial⟩ (fun v_ mem_ hR => ?_); obtain ⟨a1_, a2_, a3_, a4_, o_, h_, ha_, rfl, rfl⟩ := hR; refine ⟨rfl, q4 a1_ a2_ a3_ a4_, fun _ => rfl, ?_⟩; (conv => whnf); refine mapK_eval (cs' := [.slice (some ⟨0, off, none⟩) n c, ii o_, wv h_]) rfl ?_; conv => whnf)
    | (refine CallOK.useD (c_DrawPoint_L hz hb hn (by assumption)) [0, 1] rfl rfl rfl ⟨⟨⟨_, rfl, .lit (away_conc (bl_plain _) _).symm (fun _ h_ => by cases h_) (away_ok (bl_plain _) _)⟩⟩, ⟨⟨_, rfl, .lit rfl (fun _ h_ => h_) (fun v hv => okB0_spec (allL_spec rfl v hv))⟩⟩, trivial⟩ (fun v_ mem_ hR => ?_); obtain ⟨px_, py_, o_, h_, hp_, ha_, rfl, rfl⟩ := hR; refine ⟨rfl, pt px_ py_, fun _ => rfl, ?_⟩; (conv => whnf); refine mapK_eval (cs' := [.slice (some ⟨0, off, none⟩) n c, ii o_, wv h_]) rfl ?_; conv => whnf)
    | (refine CallOK.useD (c_Size_L hz hb hn (by assumption)) [0, 1] rfl rfl rfl ⟨⟨⟨_, rfl, .lit (away_conc (bl_plain _) _).symm (fun _ h_ => by cases h_) (away_ok (bl_plain _) _)⟩⟩, ⟨⟨_, rfl, .lit rfl (fun _ h_ => h_) (fun v hv => okB0_spec (allL_spec rfl v hv))⟩⟩, trivial⟩ (fun v_ mem_ hR => ?_); obtain ⟨y_, o_, h_, ha_, rfl, rfl⟩ := hR; refine ⟨rfl, ii y_, fun _ => rfl, ?_⟩; (conv => whnf); refine mapK_eval (cs' := [.slice (some ⟨0, off, none⟩) n c, ii o_, wv h_]) rfl ?_; conv => whnf)
    | (refine CallOK.useD (c_Pick_L (xs := [1000001, -1099511627776]) hz hb hn (by assumption) (by decide) (by decide)) [0, 1, 6] rfl rfl rfl ⟨⟨⟨_, rfl, .lit (away_conc (bl_plain _) _).symm (fun _ h_ => by cases h_) (away_ok (bl_plain _) _)⟩⟩, ⟨⟨_, rfl, .lit rfl (fun _ h_ => h_) (fun v hv => okB0_spec (allL_spec rfl v hv))⟩⟩, ⟨⟨_, rfl, .plain rfl (fun _ h_ => by cases h_) (il_plain _)⟩⟩, trivial⟩ (fun v_ mem_ hR => ?_); obtain ⟨y_, o_, h_, ha_, rfl, rfl⟩ := hR; refine ⟨rfl, ii y_, fun _ => rfl, ?_⟩; (conv => whnf); refine mapK_eval (cs' := [.slice (some ⟨0, off, none⟩) n c, ii o_, wv h_]) rfl ?_; conv => whnf)
    | (refine CallOK.useD (c_Pick_L (xs := [1000001, -1099511627776]) hz hb hn (by assumption) (by decide) (by decide)) [0, 1, 4] rfl rfl rfl ⟨⟨⟨_, rfl, .lit (away_conc (bl_plain _) _).symm (fun _ h_ => by cases h_) (away_ok (bl_plain _) _)⟩⟩, ⟨⟨_, rfl, .lit rfl (fun _ h_ => h_) (fun v hv => okB0_spec (allL_spec rfl v hv))⟩⟩, ⟨⟨_, rfl, .plain rfl (fun _ h_ => by cases h_) (il_plain _)⟩⟩, trivial⟩ (fun v_ mem_ hR => ?_); obtain ⟨y_, o_, h_, ha_, rfl, rfl⟩ := hR; refine ⟨rfl, ii y_, fun _ => rfl, ?_⟩; (conv => whnf); refine mapK_eval (cs' := [.slice (some ⟨0, off, none⟩) n c, ii o_, wv h_]) rfl ?_; conv => whnf)
    | (show brK (decide (0 ≤ x_ ∧ x_ < _)) _ _; rcases two_of hx_ with rfl | rfl <;> conv => whnf)
    | (show OutK _ _ _ _; (exact out_forget [] ⟨_, _, _, _, _, _, ha_, rfl, rfl⟩ rfl (okB2_spec rfl) ⟨⟨⟨_, rfl, .lit (away_conc (bl_plain _) _).symm rfl (away_ok (bl_plain _) _)⟩⟩, ⟨⟨_, rfl, .lit rfl rfl (fun v hv => okB0_spec (allL_spec rfl v hv))⟩⟩, trivial⟩ rfl rfl))
    | (refine StoreK.mk rfl ?_; conv => whnf)
    | exact join_same
    | exact (by assumption : (_ : Bool) = (_ : Bool))
    | (refine br_true (by assumption) ?_; conv => whnf)
    | (refine br_false (by assumption) ?_; conv => whnf)
    | (refine br_not ?_; conv => whnf)
    | (refine br_code ?_; conv => whnf)
    | (with_reducible refine br_and ?_; conv => whnf)
    | (with_reducible refine br_or ?_; conv => whnf)
    | (refine br_eq2 ?_; conv => whnf)
    | (refine draw_auto (by decide +kernel) ?_; conv => whnf)
    | (refine draw_asg (by decide +kernel) ?_; conv => whnf)
    | (refine draw_st (by decide +kernel) ?_; conv => whnf)
    | (refine draw_call (by decide +kernel) ?_; conv => whnf)
    | (refine enter_same (loop_n 12 ?_); conv => whnf)
    | (refine next_same ?_; conv => whnf)
    | (refine mapK_row (by assumption) ?_; conv => whnf)
    | (refine mapK_plain (Plain.of rfl) ?_; conv => whnf)
    | (refine mapK_lit ?_; conv => whnf)
    | (refine br_split (fun _ => ?_) (fun _ => ?_) <;> conv => whnf)
    | exact (rfl : (_ : Value) = _)
    | (simp only [*]; exact (rfl : (_ : Value) = _))
    | (simp [*]; done))

set_option maxHeartbeats 16000000 in
theorem c_AnyMatrix_N  {o h : Int}  (ha : SrcAt 0 o) : CallOK Try.prog n_spec_l01AnyMatrix [.pointer (some ⟨0, 0, none⟩)] [([.slice none 0 0, ii o, wv h], some t_spec_l01Source)] (fun v m_ => ∃ a1 a2 a3 a4 o2 h2, SrcAt 0 o2 ∧ v = q4 a1 a2 a3 a4 ∧ m_ = [([.slice none 0 0, ii o2, wv h2], some t_spec_l01Source)]) := by
  refine callOK_ofF good fn_spec_l01AnyMatrix ?_
  conv => whnf
  all_goals (repeat' first
    | (refine draw_pt (.take 0 (.take 2 (.take 4 (.duo 1 (.take 7 (.duo 3 (.solo 5 (.solo 6 (.take 8 (.solo 9 .done)))) 5 (.solo 3 (.solo 6 (.take 8 (.solo 9 .done)))))) 5 (.solo 1 (.take 7 (.solo 3 (.solo 6 (.take 8 (.solo 9 .done)))))))))) (by decide +kernel) ?_; conv => whnf)
    | (refine And.intro ?_ ?_ <;> conv => whnf)
    | (refine CallOK.useD (c_Next_N (by assumption)) [0] rfl rfl rfl ⟨⟨⟨_, rfl, .lit rfl (fun _ h_ => h_) (fun v hv => okB0_spec (allL_spec rfl v hv))⟩⟩, trivial⟩ (fun v_ mem_ hR => ?_); obtain ⟨x_, o_, h_, hx_, ha_, rfl, rfl⟩ := hR; refine ⟨rfl, ii x_, fun _ => rfl, ?_⟩; (conv => whnf); refine mapK_eval (cs' := [.slice none 0 0, ii o_, wv h_]) rfl ?_; conv => whnf)
    | (refine CallOK.useD (c_DrawUnit_N (by assumption)) [0] rfl rfl rfl ⟨⟨⟨_, rfl, .lit rfl (fun _ h_ => h_) (fun v hv => okB0_spec (allL_spec rfl v hv))⟩⟩, trivial⟩ (fun v_ mem_ hR => ?_); obtain ⟨a1_, a2_, a3_, a4_, o_, h_, ha_, rfl, rfl⟩ := hR; refine ⟨rfl, q4 a1_ a2_ a3_ a4_, fun _ => rfl, ?_⟩; (conv => whnf); refine mapK_eval (cs' := [.slice none 0 0, ii o_, wv h_]) rfl ?_; conv => whnf)
    | (refine CallOK.useD (c_DrawPoint_N (by assumption)) [0] rfl rfl rfl ⟨⟨⟨_, rfl, .lit rfl (fun _ h_ => h_) (fun v hv => okB0_spec (allL_spec rfl v hv))⟩⟩, trivial⟩ (fun v_ mem_ hR => ?_); obtain ⟨px_, py_, o_, h_, hp_, ha_, rfl, rfl⟩ := hR; refine ⟨rfl, pt px_ py_, fun _ => rfl, ?_⟩; (conv => whnf); refine mapK_eval (cs' := [.slice none 0 0, ii o_, wv h_]) rfl ?_; conv => whnf)
    | (refine CallOK.useD (c_Size_N (by assumption)) [0] rfl rfl rfl ⟨⟨⟨_, rfl, .lit rfl (fun _ h_ => h_) (fun v hv => okB0_spec (allL_spec rfl v hv))⟩⟩, trivial⟩ (fun v_ mem_ hR => ?_); obtain ⟨y_, o_, h_, ha_, rfl, rfl⟩ := hR; refine ⟨rfl, ii y_, fun _ => rfl, ?_⟩; (conv => whnf); refine mapK_eval (cs' := [.slice none 0 0, ii o_, wv h_]) rfl ?_; conv => whnf)
    | (refine CallOK.useD (c_Pick_N (xs := [1000001, -1099511627776]) (by assumption) (by decide) (by decide)) [0, 5] rfl rfl rfl ⟨⟨⟨_, rfl, .lit rfl (fun _ h_ => h_) (fun v hv => okB0_spec (allL_spec rfl v hv))⟩⟩, ⟨⟨_, rfl, .plain rfl (fun _ h_ => by cases h_) (il_plain _)⟩⟩, trivial⟩ (fun v_ mem_ hR => ?_); obtain ⟨y_, o_, h_, ha_, rfl, rfl⟩ := hR; refine ⟨rfl, ii y_, fun _ => rfl, ?_⟩; (conv => whnf); refine mapK_eval (cs' := [.slice none 0 0, ii o_, wv h_]) rfl ?_; conv => whnf)
    | (refine CallOK.useD (c_Pick_N (xs := [1000001, -1099511627776]) (by assumption) (by decide) (by decide)) [0, 3] rfl rfl rfl ⟨⟨⟨_, rfl, .lit rfl (fun _ h_ => h_) (fun v hv => okB0_spec (allL_spec rfl v hv))⟩⟩, ⟨⟨_, rfl, .plain rfl (fun _ h_ => by cases h_) (il_plain _)⟩⟩, trivial⟩ (fun v_ mem_ hR => ?_); obtain ⟨y_, o_, h_, ha_, rfl, rfl⟩ := hR; refine ⟨rfl, ii y_, fun _ => rfl, ?_⟩; (conv => whnf); refine mapK_eval (cs' := [.slice none 0 0, ii o_, wv h_]) rfl ?_; conv => whnf)
    | (show brK (decide (0 ≤ x_ ∧ x_ < _)) _ _; rcases two_of hx_ with rfl | rfl <;> conv => whnf)
    | (show OutK _ _ _ _; (exact out_forget [] ⟨_, _, _, _, _, _, ha_, rfl, rfl⟩ rfl (okB2_spec rfl) ⟨⟨⟨_, rfl, .lit rfl rfl (fun v hv => okB0_spec (allL_spec rfl v hv))⟩⟩, trivial⟩ rfl rfl))
    | (refine StoreK.mk rfl ?_; conv => whnf)
    | exact join_same
    | exact (by assumption : (_ : Bool) = (_ : Bool))
    | (refine br_true (by assumption) ?_; conv => whnf)
    | (refine br_false (by assumption) ?_; conv => whnf)
    | (refine br_not ?_; conv => whnf)
    | (refine br_code ?_; conv => whnf)
    | (with_reducible refine br_and ?_; conv => whnf)
    | (with_reducible refine br_or ?_; conv => whnf)
    | (refine br_eq2 ?_; conv => whnf)
    | (refine draw_auto (by decide +kernel) ?_; conv => whnf)
    | (refine draw_asg (by decide +kernel) ?_; conv => whnf)
    | (refine draw_st (by decide +kernel) ?_; conv => whnf)
    | (refine draw_call (by decide +kernel) ?_; conv => whnf)
    | (refine enter_same (loop_n 12 ?_); conv => whnf)
    | (refine next_same ?_; conv => whnf)
    | (refine mapK_row (by assumption) ?_; conv => whnf)
    | (refine mapK_plain (Plain.of rfl) ?_; conv => whnf)
    | (refine mapK_lit ?_; conv => whnf)
    | (refine br_split (fun _ => ?_) (fun _ => ?_) <;> conv => whnf)
    | exact (rfl : (_ : Value) = _)
    | (simp only [*]; exact (rfl : (_ : Value) = _))
    | (simp [*]; done))

end Go.Proofs.Ytnjepaboecijcaa
end

section
/-
  Contracts of functions of the program (printed by a program of this work; Lean checks each).
  Conditions: as each contract states.
-/
namespace Go.Proofs.Ytnjepaboecijcaa
open Go.Ev Go.RowKit
set_option maxRecDepth 100000
set_option linter.unusedVariables false
set_option linter.unusedSimpArgs false

theorem c_big_L {zs : List Int} {off n c : Nat}  : CallOK Try.prog n_laws_big [.slice (some ⟨0, off, none⟩) n c] [(away off (bl zs), none)] (fun v m_ => v = bb (decide (((n : Nat) : Int) > 4096)) ∧ m_ = [(away off (bl zs), none)]) := by
  refine callOK_ofF good fn_laws_big ?_
  conv => whnf
  all_goals (repeat' first
    | (show OutK _ _ _ _; exact out_forget [] ⟨rfl, rfl⟩ rfl (okB2_spec rfl) ⟨⟨⟨_, rfl, .lit (away_conc (bl_plain _) _).symm rfl (away_ok (bl_plain _) _)⟩⟩, trivial⟩ rfl rfl)
    | (refine StoreK.mk rfl ?_; conv => whnf)
    | exact join_same
    | exact (by assumption : (_ : Bool) = (_ : Bool))
    | (refine br_true (by assumption) ?_; conv => whnf)
    | (refine br_false (by assumption) ?_; conv => whnf)
    | (refine br_not ?_; conv => whnf)
    | (refine br_code ?_; conv => whnf)
    | (with_reducible refine br_and ?_; conv => whnf)
    | (with_reducible refine br_or ?_; conv => whnf)
    | (refine br_eq2 ?_; conv => whnf)
    | (refine draw_auto (by decide +kernel) ?_; conv => whnf)
    | (refine draw_asg (by decide +kernel) ?_; conv => whnf)
    | (refine draw_st (by decide +kernel) ?_; conv => whnf)
    | (refine draw_call (by decide +kernel) ?_; conv => whnf)
    | (refine enter_same (loop_n 12 ?_); conv => whnf)
    | (refine next_same ?_; conv => whnf)
    | (refine mapK_row (by assumption) ?_; conv => whnf)
    | (refine mapK_plain (Plain.of rfl) ?_; conv => whnf)
    | (refine mapK_lit ?_; conv => whnf)
    | (refine br_split (fun _ => ?_) (fun _ => ?_) <;> conv => whnf)
    | exact (rfl : (_ : Value) = _)
    | (simp only [*]; exact (rfl : (_ : Value) = _))
    | (simp [*]; done))

theorem c_big_N   : CallOK Try.prog n_laws_big [.slice none 0 0] [] (fun v m_ => v = bb (decide (((0 : Nat) : Int) > 4096)) ∧ m_ = []) := by
  refine callOK_ofF good fn_laws_big ?_
  conv => whnf
  all_goals (repeat' first
    | (show OutK _ _ _ _; exact out_forget [] ⟨rfl, rfl⟩ rfl (okB2_spec rfl) trivial rfl rfl)
    | (refine StoreK.mk rfl ?_; conv => whnf)
    | exact join_same
    | exact (by assumption : (_ : Bool) = (_ : Bool))
    | (refine br_true (by assumption) ?_; conv => whnf)
    | (refine br_false (by assumption) ?_; conv => whnf)
    | (refine br_not ?_; conv => whnf)
    | (refine br_code ?_; conv => whnf)
    | (with_reducible refine br_and ?_; conv => whnf)
    | (with_reducible refine br_or ?_; conv => whnf)
    | (refine br_eq2 ?_; conv => whnf)
    | (refine draw_auto (by decide +kernel) ?_; conv => whnf)
    | (refine draw_asg (by decide +kernel) ?_; conv => whnf)
    | (refine draw_st (by decide +kernel) ?_; conv => whnf)
    | (refine draw_call (by decide +kernel) ?_; conv => whnf)
    | (refine enter_same (loop_n 12 ?_); conv => whnf)
    | (refine next_same ?_; conv => whnf)
    | (refine mapK_row (by assumption) ?_; conv => whnf)
    | (refine mapK_plain (Plain.of rfl) ?_; conv => whnf)
    | (refine mapK_lit ?_; conv => whnf)
    | (refine br_split (fun _ => ?_) (fun _ => ?_) <;> conv => whnf)
    | exact (rfl : (_ : Value) = _)
    | (simp only [*]; exact (rfl : (_ : Value) = _))
    | (simp [*]; done))

end Go.Proofs.Ytnjepaboecijcaa
end

section
/-
  Contracts of functions of the program (printed by a program of this work; Lean checks each).
  Conditions: as each contract states.
-/
namespace Go.Proofs.Ytnjepaboecijcaa
open Go.Ev Go.RowKit
set_option maxRecDepth 100000
set_option linter.unusedVariables false
set_option linter.unusedSimpArgs false

attribute [local irreducible] isPtF isFracF plusF detF turnX turnY mateX mateY movX movY levL gnx chn

theorem c_impl_GeodesicOf_ok {a b c d : Int} (hp : (isPtF a b && isPtF c d) = true) (hf : (isFracF a b && isFracF c d) = true) (hM : isPtF (movX a b c d) (movY a b c d) = true) : CallOK Try.prog n_impl_GeodesicOf [pt a b, pt c d] [] (fun v m_ => ∃ n k sp, Row (pl (geoL a b c d)) sp n k 2 ∧ n ≤ 1000001 ∧ v = t2 (.slice (some ⟨0, 0, none⟩) n k) (ii 0) ∧ m_ = [(pl (geoL a b c d) ++ sp, some t_impl_Point)]) := by
  have hq_ : isPtF a b = true ∧ isPtF c d = true := (by simpa using hp)
  have hg_ : isFracF a b = true ∧ isFracF c d = true := (by simpa using hf)
  have mv_ : MovOk a b c d := ⟨hg_.1, hg_.2⟩
  have hF_ := mov_fr mv_ hM
  have bk_ := gchL_pt mv_ hM
  have hbd_ := chn_bd (x := (movX a b c d, movY a b c d)) hF_
  refine ⟨fn_impl_GeodesicOf.enters, fun w0 ρ w hm hargs => ?_⟩
  obtain rfl : ρ = [] := List.eq_nil_of_length_eq_zero hm.len
  refine callsIn_wide.1 (callsIn_of_wp_marks (n := 3) fn_impl_GeodesicOf.at_ fn_impl_GeodesicOf.body trivial (wpIn_wide.2 ?_) rfl)
  refine evHd_sound good.tbl good.mix (m0 := 0) (ρ0 := []) rfl 6 code30 (geo_head hp hf hM) (σ := []) (by exact tmAt_start (n := 82) hargs) (by exact hm) (fun σ tm' mem' a' w' hk ha' hm' => ?_) (fun e σ tm' mem' a' w' hne hk ha' hm' => by cases e <;> first | exact (hne rfl).elim | exact (hk : False).elim)
  obtain ⟨ρ', n, k, sz, hrow, ha2, hm2⟩ : ∃ ρ' n k sz, Row (pl (chn (movX a b c d, movY a b c d))) sz n k 2 ∧ TmAt ρ' (geoTm n k) a' ∧ MemAt w0 ρ' (geoMem a b (chn (movX a b c d, movY a b c d)) sz [] [] 0 0) w' := by
    rcases hk.or with ⟨n, k, sz, h1, rfl, rfl⟩ | ⟨κ, _, _, hf_, n, k, sz, h1, rfl, rfl⟩
    · exact ⟨_, n, k, sz, h1, ha', hm'⟩
    · obtain ⟨σ', h2, h3⟩ := hf_.sound (ρ0 := []) rfl ha' hm'
      exact ⟨_, n, k, sz, h1, h2, h3⟩
  refine (wpIn_wide (n := 3)).1 (geo_tail hrow hbd_ (fun y hy => (bk_ y hy).pt) ha2 hm2 (fun r so n k W hr hW => ⟨t2 (.slice (some ⟨0, 0, none⟩) n k) (ii 0), _, [r], rfl, okB2_spec rfl, hW, n, k, so, hr, ?_, rfl, rfl⟩))
  have := row_pl hr
  simp at this
  omega

theorem c_impl_GeodesicOf_no3 {a b c d : Int} (hp : (isPtF a b && isPtF c d) = true) (hf : (isFracF a b && isFracF c d) = true) (hM : isPtF (movX a b c d) (movY a b c d) = false) : CallOK Try.prog n_impl_GeodesicOf [pt a b, pt c d] [] (fun v m_ => v = t2 (.slice none 0 0) (ii 3) ∧ m_ = []) := by
  refine callOK_ofF good fn_impl_GeodesicOf ?_
  conv => whnf
  all_goals (repeat' first
    | exact hM
    | exact out_forget [] ⟨rfl, rfl⟩ rfl (okB2_spec rfl) trivial rfl rfl
    | exact hp
    | exact hf
    | (refine StoreK.mk rfl ?_; conv => whnf)
    | exact join_same
    | exact (by assumption : (_ : Bool) = (_ : Bool))
    | (refine br_true (by assumption) ?_; conv => whnf)
    | (refine br_false (by assumption) ?_; conv => whnf)
    | (refine br_not ?_; conv => whnf)
    | (refine br_code ?_; conv => whnf)
    | (with_reducible refine br_and ?_; conv => whnf)
    | (with_reducible refine br_or ?_; conv => whnf)
    | (refine br_eq2 ?_; conv => whnf)
    | (refine (c_led_no3 ?_ ?_ ?_).call ?_ <;> conv => whnf)
    | (refine (c_led_no3 ?_ ?_ ?_).quiet ?_ <;> conv => whnf)
    | (refine draw_auto (by decide +kernel) ?_; conv => whnf)
    | (refine draw_asg (by decide +kernel) ?_; conv => whnf)
    | (refine draw_st (by decide +kernel) ?_; conv => whnf)
    | (refine draw_call (by decide +kernel) ?_; conv => whnf)
    | (refine enter_same (loop_n 12 ?_); conv => whnf)
    | (refine next_same ?_; conv => whnf)
    | (refine mapK_row (by assumption) ?_; conv => whnf)
    | (refine mapK_plain (Plain.of rfl) ?_; conv => whnf)
    | (refine mapK_lit ?_; conv => whnf)
    | (refine br_split (fun _ => ?_) (fun _ => ?_) <;> conv => whnf)
    | exact (rfl : (_ : Value) = _)
    | (simp only [*]; exact (rfl : (_ : Value) = _))
    | (simp [*]; done))

theorem c_impl_GeodesicOf_no2 {a b c d : Int} (hp : (isPtF a b && isPtF c d) = true) (hf : (isFracF a b && isFracF c d) = false) : CallOK Try.prog n_impl_GeodesicOf [pt a b, pt c d] [] (fun v m_ => v = t2 (.slice none 0 0) (ii 2) ∧ m_ = []) := by
  refine callOK_ofF good fn_impl_GeodesicOf ?_
  conv => whnf
  all_goals (repeat' first
    | exact hM
    | exact out_forget [] ⟨rfl, rfl⟩ rfl (okB2_spec rfl) trivial rfl rfl
    | exact hp
    | exact hf
    | (refine StoreK.mk rfl ?_; conv => whnf)
    | exact join_same
    | exact (by assumption : (_ : Bool) = (_ : Bool))
    | (refine br_true (by assumption) ?_; conv => whnf)
    | (refine br_false (by assumption) ?_; conv => whnf)
    | (refine br_not ?_; conv => whnf)
    | (refine br_code ?_; conv => whnf)
    | (with_reducible refine br_and ?_; conv => whnf)
    | (with_reducible refine br_or ?_; conv => whnf)
    | (refine br_eq2 ?_; conv => whnf)
    | (refine (c_led_no2 ?_ ?_).call ?_ <;> conv => whnf)
    | (refine (c_led_no2 ?_ ?_).quiet ?_ <;> conv => whnf)
    | (refine draw_auto (by decide +kernel) ?_; conv => whnf)
    | (refine draw_asg (by decide +kernel) ?_; conv => whnf)
    | (refine draw_st (by decide +kernel) ?_; conv => whnf)
    | (refine draw_call (by decide +kernel) ?_; conv => whnf)
    | (refine enter_same (loop_n 12 ?_); conv => whnf)
    | (refine next_same ?_; conv => whnf)
    | (refine mapK_row (by assumption) ?_; conv => whnf)
    | (refine mapK_plain (Plain.of rfl) ?_; conv => whnf)
    | (refine mapK_lit ?_; conv => whnf)
    | (refine br_split (fun _ => ?_) (fun _ => ?_) <;> conv => whnf)
    | exact (rfl : (_ : Value) = _)
    | (simp only [*]; exact (rfl : (_ : Value) = _))
    | (simp [*]; done))

theorem c_impl_GeodesicOf_no1 {a b c d : Int} (hp : (isPtF a b && isPtF c d) = false) : CallOK Try.prog n_impl_GeodesicOf [pt a b, pt c d] [] (fun v m_ => v = t2 (.slice none 0 0) (ii 1) ∧ m_ = []) := by
  refine callOK_ofF good fn_impl_GeodesicOf ?_
  conv => whnf
  all_goals (repeat' first
    | exact hM
    | exact out_forget [] ⟨rfl, rfl⟩ rfl (okB2_spec rfl) trivial rfl rfl
    | exact hp
    | exact hf
    | (refine StoreK.mk rfl ?_; conv => whnf)
    | exact join_same
    | exact (by assumption : (_ : Bool) = (_ : Bool))
    | (refine br_true (by assumption) ?_; conv => whnf)
    | (refine br_false (by assumption) ?_; conv => whnf)
    | (refine br_not ?_; conv => whnf)
    | (refine br_code ?_; conv => whnf)
    | (with_reducible refine br_and ?_; conv => whnf)
    | (with_reducible refine br_or ?_; conv => whnf)
    | (refine br_eq2 ?_; conv => whnf)
    | (refine (c_led_no1 ?_).call ?_ <;> conv => whnf)
    | (refine (c_led_no1 ?_).quiet ?_ <;> conv => whnf)
    | (refine draw_auto (by decide +kernel) ?_; conv => whnf)
    | (refine draw_asg (by decide +kernel) ?_; conv => whnf)
    | (refine draw_st (by decide +kernel) ?_; conv => whnf)
    | (refine draw_call (by decide +kernel) ?_; conv => whnf)
    | (refine enter_same (loop_n 12 ?_); conv => whnf)
    | (refine next_same ?_; conv => whnf)
    | (refine mapK_row (by assumption) ?_; conv => whnf)
    | (refine mapK_plain (Plain.of rfl) ?_; conv => whnf)
    | (refine mapK_lit ?_; conv => whnf)
    | (refine br_split (fun _ => ?_) (fun _ => ?_) <;> conv => whnf)
    | exact (rfl : (_ : Value) = _)
    | (simp only [*]; exact (rfl : (_ : Value) = _))
    | (simp [*]; done))

end Go.Proofs.Ytnjepaboecijcaa
end

section
/-
  Contracts of functions of the program (printed by a program of this work; Lean checks each).
  Conditions: as each contract states.
-/
namespace Go.Proofs.Ytnjepaboecijcaa
open Go.Ev Go.RowKit
set_option maxRecDepth 100000
set_option linter.unusedVariables false
set_option linter.unusedSimpArgs false

attribute [local irreducible] isPtF isFracF plusF detF turnX turnY mateX mateY movX movY levL gnx chn

theorem bk_q {a b : Int} (h : isPtF a b = true) (hp : primF a b = true) : detF (mateY a b) (w64 (0 - mateX a b)) (w64 (0 - b)) a = 1 ∧ invA 1 a = a ∧ invB 1 (w64 (0 - mateX a b)) = mateX a b ∧ invB 1 (w64 (0 - b)) = b ∧ invA 1 (mateY a b) = mateY a b := by
  have h1 := isPtF_iff.1 h
  have h2 := isPtF_iff.1 (mate_pt h)
  have hd := mate_det h hp
  have e1 : w64 (0 - mateX a b) = -mateX a b := by rw [w64_in (by omega) (by omega)]; omega
  have e2 : w64 (0 - b) = -b := by rw [w64_in (by omega) (by omega)]; omega
  have e3 : ∀ x : Int, -1000000 ≤ x → x ≤ 1000000 → invA 1 x = x := fun x g1 g2 => by unfold invA; rw [w64_in (by omega) (by omega)]; omega
  have e4 : ∀ x : Int, -1000000 ≤ x → x ≤ 1000000 → invB 1 (-x) = x := fun x g1 g2 => by
    unfold invB
    rw [show w64 (0 - 1) = -1 by decide, w64_in (by omega) (by omega)]; omega
  refine ⟨?_, e3 _ (by omega) (by omega), by rw [e1]; exact e4 _ (by omega) (by omega), by rw [e2]; exact e4 _ (by omega) (by omega), e3 _ (by omega) (by omega)⟩
  rw [e1, e2]
  unfold detF
  simp only [w64_mul_l, w64_sub_l, w64_sub_r]
  rw [show mateY a b * a - -mateX a b * -b = a * mateY a b - b * mateX a b by grind, hd]
  decide
theorem ap_gbX (a b : Int) (z : Int × Int) : apF a (mateX a b) z.1 z.2 = gbX a b z ∧ apF b (mateY a b) z.1 z.2 = gbY a b z := by
  unfold gbX gbY apF
  rw [plus2, plus2]
  simp only [w64_add_l, w64_add_r]
  exact ⟨trivial, trivial⟩
theorem geo_mbd {X Y x y : Int} {L : List (Int × Int)} {sp : List Value} {n c : Nat} (h : GeoS X Y x y L sp n c) (hF : FrOk X Y) (hp : ¬ y > 1) : (L ++ [(x, y)]).length ≤ 1000001 := by
  have e := congrArg List.length (h.fin hp)
  have := chn_bd (x := (X, Y)) hF
  rw [List.length_dropLast] at e
  omega

set_option maxHeartbeats 4000000 in
theorem c_spec_GeodesicOf_ok {a b c d : Int} (hp : (isPtF a b && isPtF c d) = true) (hf : (isFracF a b && isFracF c d) = true) (hn : ¬ (a = c ∧ b = d)) (hM : isPtF (movX a b c d) (movY a b c d) = true) : CallOK Try.prog n_spec_GeodesicOf [pt a b, pt c d] [] (fun v m_ => ∃ n k sp, Row (pl (geoL a b c d)) sp n k 2 ∧ n ≤ 1000001 ∧ v = t2 (.slice (some ⟨0, 0, none⟩) n k) (ii 0) ∧ m_ = [(pl (geoL a b c d) ++ sp, some t_impl_Point)]) := by
  have hq_ : isPtF a b = true ∧ isPtF c d = true := (by simpa using hp); have hg_ : isFracF a b = true ∧ isFracF c d = true := (by simpa using hf); have p1_ := hq_.1; have p2_ := hq_.2; have mv_ : MovOk a b c d := ⟨hg_.1, hg_.2⟩; have hF_ := mov_fr mv_ hM; have hY_ := mov_pos mv_ hn; have q1_ := (frac_iff hg_.1).2.1; have bq_ := bk_q p1_ q1_; refine callOK_ofF good fn_spec_GeodesicOf ?_
  conv => whnf
  all_goals (repeat' first
    | (refine enter_forget [0, 2, 3, 5] (loop_rec (fun (s : Int × (List (Int × Int)) × (List Value) × Nat × Nat) => match s with | (i, O, so, m, q) => [wild, wild, .pointer (some ⟨0, 0, none⟩), wild, .slice none 0 0, ii 0, wild, wild, wild, .pointer (some ⟨1, 0, none⟩), .slice (some ⟨2, 0, none⟩) (n + 1) k, wild, wild, .slice (some ⟨3, 0, none⟩) m q, ii i, wild, wild, wild, wild, wild, wild, wild, wild, wild, wild, wild, wild, wild, wild, wild, wild, wild, wild, wild, wild, wild, wild, wild, wild, wild, wild, wild, wild, wild, wild, wild, wild, wild, wild, wild, wild, wild, wild, wild, wild, wild, wild, wild, wild, wild, wild, wild, wild, wild, wild, wild, wild, wild, wild, wild, wild, wild, wild, wild, wild, wild, wild, wild, wild, wild, wild, wild]) (fun (s : Int × (List (Int × Int)) × (List Value) × Nat × Nat) => match s with | (i, O, so, m, q) => [([ii a, ii b], some t_impl_Point), ([ii (invA (detF (mateY a b) (w64 (0 - mateX a b)) (w64 (0 - b)) a) a), ii (invB (detF (mateY a b) (w64 (0 - mateX a b)) (w64 (0 - b)) a) (w64 (0 - mateX a b))), ii (invB (detF (mateY a b) (w64 (0 - mateX a b)) (w64 (0 - b)) a) (w64 (0 - b))), ii (invA (detF (mateY a b) (w64 (0 - mateX a b)) (w64 (0 - b)) a) (mateY a b))], some t_impl_Matrix), (pl (L ++ [(x, y)]) ++ spa_, some t_impl_Point), (pl O ++ so, some t_impl_Point)]) (fun (s : Int × (List (Int × Int)) × (List Value) × Nat × Nat) => match s with | (i, O, so, m, q) => (i + 1).toNat) (fun (s : Int × (List (Int × Int)) × (List Value) × Nat × Nat) => match s with | (i, O, so, m, q) => GeoB a b (L ++ [(x, y)]) i O so m q) (w64 (((n + 1 : Nat) : Int) - 1), [(a, b)], [], 1, 1) (by have e_ := row_pl hI.row; have q_ := GeoB.start (a := a) (b := b) (M := (L ++ [(x, y)])) (geo_mbd hI hF_ (of_decide_eq_false (show decide (y > 1) = false by assumption))); rwa [show ((L ++ [(x, y)]).length : Int) = ((n + 1 : Nat) : Int) by simp [e_]] at q_) ?_) (tmR_rfl rfl rfl) ⟨⟨⟨_, rfl, .plain rfl rfl (by first | exact Plain.of rfl | exact Row.all (by assumption))⟩⟩, ⟨⟨_, rfl, .plain rfl rfl (by first | exact Plain.of rfl | exact Row.all (by assumption))⟩⟩, ⟨⟨_, rfl, .plain (by rw [pl_snoc] <;> rfl) rfl (by rw [pl_snoc]; exact Row.all ra_)⟩⟩, ⟨⟨_, rfl, .plain rfl rfl (Plain.of rfl)⟩⟩, trivial⟩ rfl rfl; rintro fuel_2 ⟨i, O, so, m, q⟩ hI2 IH2; replace hI2 : GeoB a b (L ++ [(x, y)]) i O so m q := hI2; conv => whnf)
    | exact next_forget [0, 1, 2, 3] (IH2 (w64 (i - 1), O ++ [gbk a b ((L ++ [(x, y)]).getD i.toNat (0, 0))], spd_, m + 1, q) (by exact hI2.next (geo_mbd hI hF_ (of_decide_eq_false (show decide (y > 1) = false by assumption))) (of_decide_eq_true (show decide (i ≥ 0) = true by assumption)) rd_) (by exact hI2.mu (geo_mbd hI hF_ (of_decide_eq_false (show decide (y > 1) = false by assumption))) (of_decide_eq_true (show decide (i ≥ 0) = true by assumption)))) (tmR_rfl rfl rfl) ⟨⟨⟨_, rfl, .plain rfl rfl (by first | exact Plain.of rfl | exact Row.all (by assumption))⟩⟩, ⟨⟨_, rfl, .plain (by simp only [bq_.1, bq_.2.1, bq_.2.2.1, bq_.2.2.2.1, bq_.2.2.2.2]) rfl (by first | exact Plain.of rfl | exact Row.all (by assumption))⟩⟩, ⟨⟨_, rfl, .plain rfl rfl (by rw [pl_snoc]; exact Row.all ra_)⟩⟩, ⟨⟨_, rfl, .plain (by rw [pl_snoc] <;> rfl) rfl (by rw [pl_snoc]; exact Row.all rd_)⟩⟩, trivial⟩ rfl rfl
    | exact next_forget [0, 1, 2, _] (IH2 (w64 (i - 1), O ++ [gbk a b ((L ++ [(x, y)]).getD i.toNat (0, 0))], spd_, m + 1, cd_) (by exact hI2.next (geo_mbd hI hF_ (of_decide_eq_false (show decide (y > 1) = false by assumption))) (of_decide_eq_true (show decide (i ≥ 0) = true by assumption)) rd_) (by exact hI2.mu (geo_mbd hI hF_ (of_decide_eq_false (show decide (y > 1) = false by assumption))) (of_decide_eq_true (show decide (i ≥ 0) = true by assumption)))) (tmR_rfl rfl rfl) ⟨⟨⟨_, rfl, .plain rfl rfl (by first | exact Plain.of rfl | exact Row.all (by assumption))⟩⟩, ⟨⟨_, rfl, .plain (by simp only [bq_.1, bq_.2.1, bq_.2.2.1, bq_.2.2.2.1, bq_.2.2.2.2]) rfl (by first | exact Plain.of rfl | exact Row.all (by assumption))⟩⟩, ⟨⟨_, rfl, .plain rfl rfl (by rw [pl_snoc]; exact Row.all ra_)⟩⟩, ⟨⟨_, rfl, .plain (by rw [pl_snoc] <;> rfl) rfl (by rw [pl_snoc]; exact Row.all rd_)⟩⟩, trivial⟩ rfl rfl
    | (refine enter_forget [0, 2, 5, 6] (loop_rec (fun (s : Int × (List (Int × Int)) × (List Value) × Nat × Nat) => match s with | (i, O, so, m, q) => [wild, wild, .pointer (some ⟨0, 0, none⟩), wild, .slice none 0 0, ii 0, wild, wild, wild, .pointer (some ⟨1, 0, none⟩), .slice (some ⟨2, 0, none⟩) (n + 1) ca_, wild, wild, .slice (some ⟨3, 0, none⟩) m q, ii i, wild, wild, wild, wild, wild, wild, wild, wild, wild, wild, wild, wild, wild, wild, wild, wild, wild, wild, wild, wild, wild, wild, wild, wild, wild, wild, wild, wild, wild, wild, wild, wild, wild, wild, wild, wild, wild, wild, wild, wild, wild, wild, wild, wild, wild, wild, wild, wild, wild, wild, wild, wild, wild, wild, wild, wild, wild, wild, wild, wild, wild, wild, wild, wild, wild, wild, wild]) (fun (s : Int × (List (Int × Int)) × (List Value) × Nat × Nat) => match s with | (i, O, so, m, q) => [([ii a, ii b], some t_impl_Point), ([ii (invA (detF (mateY a b) (w64 (0 - mateX a b)) (w64 (0 - b)) a) a), ii (invB (detF (mateY a b) (w64 (0 - mateX a b)) (w64 (0 - b)) a) (w64 (0 - mateX a b))), ii (invB (detF (mateY a b) (w64 (0 - mateX a b)) (w64 (0 - b)) a) (w64 (0 - b))), ii (invA (detF (mateY a b) (w64 (0 - mateX a b)) (w64 (0 - b)) a) (mateY a b))], some t_impl_Matrix), (pl (L ++ [(x, y)]) ++ spa_, some t_impl_Point), (pl O ++ so, some t_impl_Point)]) (fun (s : Int × (List (Int × Int)) × (List Value) × Nat × Nat) => match s with | (i, O, so, m, q) => (i + 1).toNat) (fun (s : Int × (List (Int × Int)) × (List Value) × Nat × Nat) => match s with | (i, O, so, m, q) => GeoB a b (L ++ [(x, y)]) i O so m q) (w64 (((n + 1 : Nat) : Int) - 1), [(a, b)], [], 1, 1) (by have e_ := row_pl hI.row; have q_ := GeoB.start (a := a) (b := b) (M := (L ++ [(x, y)])) (geo_mbd hI hF_ (of_decide_eq_false (show decide (y > 1) = false by assumption))); rwa [show ((L ++ [(x, y)]).length : Int) = ((n + 1 : Nat) : Int) by simp [e_]] at q_) ?_) (tmR_rfl rfl rfl) ⟨⟨⟨_, rfl, .plain rfl rfl (by first | exact Plain.of rfl | exact Row.all (by assumption))⟩⟩, ⟨⟨_, rfl, .plain rfl rfl (by first | exact Plain.of rfl | exact Row.all (by assumption))⟩⟩, ⟨⟨_, rfl, .plain (by rw [pl_snoc] <;> rfl) rfl (by rw [pl_snoc]; exact Row.all ra_)⟩⟩, ⟨⟨_, rfl, .plain rfl rfl (Plain.of rfl)⟩⟩, trivial⟩ rfl rfl; rintro fuel_2 ⟨i, O, so, m, q⟩ hI2 IH2; replace hI2 : GeoB a b (L ++ [(x, y)]) i O so m q := hI2; conv => whnf)
    | exact next_forget [0, 1, 2, 3] (IH2 (w64 (i - 1), O ++ [gbk a b ((L ++ [(x, y)]).getD i.toNat (0, 0))], spd_, m + 1, q) (by exact hI2.next (geo_mbd hI hF_ (of_decide_eq_false (show decide (y > 1) = false by assumption))) (of_decide_eq_true (show decide (i ≥ 0) = true by assumption)) rd_) (by exact hI2.mu (geo_mbd hI hF_ (of_decide_eq_false (show decide (y > 1) = false by assumption))) (of_decide_eq_true (show decide (i ≥ 0) = true by assumption)))) (tmR_rfl rfl rfl) ⟨⟨⟨_, rfl, .plain rfl rfl (by first | exact Plain.of rfl | exact Row.all (by assumption))⟩⟩, ⟨⟨_, rfl, .plain (by simp only [bq_.1, bq_.2.1, bq_.2.2.1, bq_.2.2.2.1, bq_.2.2.2.2]) rfl (by first | exact Plain.of rfl | exact Row.all (by assumption))⟩⟩, ⟨⟨_, rfl, .plain rfl rfl (by rw [pl_snoc]; exact Row.all ra_)⟩⟩, ⟨⟨_, rfl, .plain (by rw [pl_snoc] <;> rfl) rfl (by rw [pl_snoc]; exact Row.all rd_)⟩⟩, trivial⟩ rfl rfl
    | exact next_forget [0, 1, 2, _] (IH2 (w64 (i - 1), O ++ [gbk a b ((L ++ [(x, y)]).getD i.toNat (0, 0))], spd_, m + 1, cd_) (by exact hI2.next (geo_mbd hI hF_ (of_decide_eq_false (show decide (y > 1) = false by assumption))) (of_decide_eq_true (show decide (i ≥ 0) = true by assumption)) rd_) (by exact hI2.mu (geo_mbd hI hF_ (of_decide_eq_false (show decide (y > 1) = false by assumption))) (of_decide_eq_true (show decide (i ≥ 0) = true by assumption)))) (tmR_rfl rfl rfl) ⟨⟨⟨_, rfl, .plain rfl rfl (by first | exact Plain.of rfl | exact Row.all (by assumption))⟩⟩, ⟨⟨_, rfl, .plain (by simp only [bq_.1, bq_.2.1, bq_.2.2.1, bq_.2.2.2.1, bq_.2.2.2.2]) rfl (by first | exact Plain.of rfl | exact Row.all (by assumption))⟩⟩, ⟨⟨_, rfl, .plain rfl rfl (by rw [pl_snoc]; exact Row.all ra_)⟩⟩, ⟨⟨_, rfl, .plain (by rw [pl_snoc] <;> rfl) rfl (by rw [pl_snoc]; exact Row.all rd_)⟩⟩, trivial⟩ rfl rfl
    | (refine enter_forget [0, 3, 5, 4] (loop_rec (fun (s : Int × Int × (List (Int × Int)) × (List Value) × Nat × Nat) => match s with | (x, y, L, sp, n, k) => [wild, wild, .pointer (some ⟨0, 0, none⟩), wild, .slice none 0 0, ii 0, wild, .pointer (some ⟨1, 0, none⟩), wild, .pointer (some ⟨2, 0, none⟩), .slice (some ⟨3, 0, none⟩) n k, wild, wild, wild, wild, wild, wild, wild, wild, wild, wild, wild, wild, wild, wild, wild, wild, wild, wild, wild, wild, wild, wild, wild, wild, wild, wild, wild, wild, wild, wild, wild, wild, wild, wild, wild, wild, wild, wild, wild, wild, wild, wild, wild, wild, wild, wild, wild, wild, wild, wild, wild, wild, wild, wild, wild, wild, wild, wild, wild, wild, wild, wild, wild, wild, wild, wild, wild, wild, wild, wild, wild]) (fun (s : Int × Int × (List (Int × Int)) × (List Value) × Nat × Nat) => match s with | (x, y, L, sp, n, k) => [([ii a, ii b], some t_impl_Point), ([ii x, ii y], some t_impl_Point), ([ii (invA (detF (mateY a b) (w64 (0 - mateX a b)) (w64 (0 - b)) a) a), ii (invB (detF (mateY a b) (w64 (0 - mateX a b)) (w64 (0 - b)) a) (w64 (0 - mateX a b))), ii (invB (detF (mateY a b) (w64 (0 - mateX a b)) (w64 (0 - b)) a) (w64 (0 - b))), ii (invA (detF (mateY a b) (w64 (0 - mateX a b)) (w64 (0 - b)) a) (mateY a b))], some t_impl_Matrix), (pl L ++ sp, some t_impl_Point)]) (fun (s : Int × Int × (List (Int × Int)) × (List Value) × Nat × Nat) => match s with | (x, y, L, sp, n, k) => y.toNat) (fun (s : Int × Int × (List (Int × Int)) × (List Value) × Nat × Nat) => match s with | (x, y, L, sp, n, k) => GeoS (movX a b c d) (movY a b c d) x y L sp n k) (movX a b c d, movY a b c d, [], [], 0, 0) (GeoS.start hF_ hY_) ?_) (tmR_rfl rfl rfl) ⟨⟨⟨_, rfl, .plain rfl rfl (by first | exact Plain.of rfl | exact Row.all (by assumption))⟩⟩, ⟨⟨_, rfl, .plain rfl rfl (by first | exact Plain.of rfl | exact Row.all (by assumption))⟩⟩, ⟨⟨_, rfl, .plain rfl rfl (by first | exact Plain.of rfl | exact Row.all (by assumption))⟩⟩, ⟨⟨_, rfl, .plain rfl rfl Plain.nil⟩⟩, trivial⟩ rfl rfl; rintro fuel_ ⟨x, y, L, sp, n, k⟩ hI IH; replace hI : GeoS (movX a b c d) (movY a b c d) x y L sp n k := hI; conv => whnf)
    | exact next_forget [0, 1, 2, 3] (IH (parR0 x y, parR1 x y, L ++ [(x, y)], spa_, n + 1, k) (by exact hI.next (of_decide_eq_true (show decide (y > 1) = true by assumption)) (gnx_R (of_decide_eq_true (show decide (y > 1) = true by assumption)) (of_decide_eq_true (show decide (levL (parR0 x y) (parR1 x y) < levL (parL0 x y) (parL1 x y)) = true by assumption))) ra_) (by exact hI.mu (of_decide_eq_true (show decide (y > 1) = true by assumption)) (gnx_R (of_decide_eq_true (show decide (y > 1) = true by assumption)) (of_decide_eq_true (show decide (levL (parR0 x y) (parR1 x y) < levL (parL0 x y) (parL1 x y)) = true by assumption))))) (tmR_rfl rfl rfl) ⟨⟨⟨_, rfl, .plain rfl rfl (by first | exact Plain.of rfl | exact Row.all (by assumption))⟩⟩, ⟨⟨_, rfl, .plain rfl rfl (by first | exact Plain.of rfl | exact Row.all (by assumption))⟩⟩, ⟨⟨_, rfl, .plain rfl rfl (by first | exact Plain.of rfl | exact Row.all (by assumption))⟩⟩, ⟨⟨_, rfl, .plain (by rw [pl_snoc] <;> rfl) rfl (by rw [pl_snoc]; exact Row.all ra_)⟩⟩, trivial⟩ rfl rfl
    | exact next_forget [0, 1, 2, _] (IH (parR0 x y, parR1 x y, L ++ [(x, y)], spa_, n + 1, ca_) (by exact hI.next (of_decide_eq_true (show decide (y > 1) = true by assumption)) (gnx_R (of_decide_eq_true (show decide (y > 1) = true by assumption)) (of_decide_eq_true (show decide (levL (parR0 x y) (parR1 x y) < levL (parL0 x y) (parL1 x y)) = true by assumption))) ra_) (by exact hI.mu (of_decide_eq_true (show decide (y > 1) = true by assumption)) (gnx_R (of_decide_eq_true (show decide (y > 1) = true by assumption)) (of_decide_eq_true (show decide (levL (parR0 x y) (parR1 x y) < levL (parL0 x y) (parL1 x y)) = true by assumption))))) (tmR_rfl rfl rfl) ⟨⟨⟨_, rfl, .plain rfl rfl (by first | exact Plain.of rfl | exact Row.all (by assumption))⟩⟩, ⟨⟨_, rfl, .plain rfl rfl (by first | exact Plain.of rfl | exact Row.all (by assumption))⟩⟩, ⟨⟨_, rfl, .plain rfl rfl (by first | exact Plain.of rfl | exact Row.all (by assumption))⟩⟩, ⟨⟨_, rfl, .plain (by rw [pl_snoc] <;> rfl) rfl (by rw [pl_snoc]; exact Row.all ra_)⟩⟩, trivial⟩ rfl rfl
    | exact next_forget [0, 1, 2, 3] (IH (parL0 x y, parL1 x y, L ++ [(x, y)], spa_, n + 1, k) (by exact hI.next (of_decide_eq_true (show decide (y > 1) = true by assumption)) (gnx_L (of_decide_eq_true (show decide (y > 1) = true by assumption)) (of_decide_eq_false (show decide (levL (parR0 x y) (parR1 x y) < levL (parL0 x y) (parL1 x y)) = false by assumption))) ra_) (by exact hI.mu (of_decide_eq_true (show decide (y > 1) = true by assumption)) (gnx_L (of_decide_eq_true (show decide (y > 1) = true by assumption)) (of_decide_eq_false (show decide (levL (parR0 x y) (parR1 x y) < levL (parL0 x y) (parL1 x y)) = false by assumption))))) (tmR_rfl rfl rfl) ⟨⟨⟨_, rfl, .plain rfl rfl (by first | exact Plain.of rfl | exact Row.all (by assumption))⟩⟩, ⟨⟨_, rfl, .plain rfl rfl (by first | exact Plain.of rfl | exact Row.all (by assumption))⟩⟩, ⟨⟨_, rfl, .plain rfl rfl (by first | exact Plain.of rfl | exact Row.all (by assumption))⟩⟩, ⟨⟨_, rfl, .plain (by rw [pl_snoc] <;> rfl) rfl (by rw [pl_snoc]; exact Row.all ra_)⟩⟩, trivial⟩ rfl rfl
    | exact next_forget [0, 1, 2, _] (IH (parL0 x y, parL1 x y, L ++ [(x, y)], spa_, n + 1, ca_) (by exact hI.next (of_decide_eq_true (show decide (y > 1) = true by assumption)) (gnx_L (of_decide_eq_true (show decide (y > 1) = true by assumption)) (of_decide_eq_false (show decide (levL (parR0 x y) (parR1 x y) < levL (parL0 x y) (parL1 x y)) = false by assumption))) ra_) (by exact hI.mu (of_decide_eq_true (show decide (y > 1) = true by assumption)) (gnx_L (of_decide_eq_true (show decide (y > 1) = true by assumption)) (of_decide_eq_false (show decide (levL (parR0 x y) (parR1 x y) < levL (parL0 x y) (parL1 x y)) = false by assumption))))) (tmR_rfl rfl rfl) ⟨⟨⟨_, rfl, .plain rfl rfl (by first | exact Plain.of rfl | exact Row.all (by assumption))⟩⟩, ⟨⟨_, rfl, .plain rfl rfl (by first | exact Plain.of rfl | exact Row.all (by assumption))⟩⟩, ⟨⟨_, rfl, .plain rfl rfl (by first | exact Plain.of rfl | exact Row.all (by assumption))⟩⟩, ⟨⟨_, rfl, .plain (by rw [pl_snoc] <;> rfl) rfl (by rw [pl_snoc]; exact Row.all ra_)⟩⟩, trivial⟩ rfl rfl
    | (refine br_fault ?_; conv => whnf)
    | exact hM
    | exact p1_
    | exact absurd (And.intro (eq_of_dec (show decide (a = c) = true by assumption)) (eq_of_dec (show decide (b = d) = true by assumption))) hn
    | exact mov_fr mv_ hM
    | exact mov_pos mv_ hn
    | (refine draw_pt (.take 0 (.take 2 (.take 3 (.take 4 (.join [5, 1] (.duo 1 (.solo 5 .done) 5 (.solo 1 .done)) (.solo 6 (.solo 7 (.solo 8 (.solo 9 (.solo 10 .done)))))))))) (by decide +kernel) ?_; conv => whnf)
    | (refine And.intro ?_ ?_ <;> conv => whnf)
    | (refine br_in (by have := hI2.ix (geo_mbd hI hF_ (of_decide_eq_false (show decide (y > 1) = false by assumption))) (of_decide_eq_true (show decide (i ≥ 0) = true by assumption)); omega) (by have := hI2.ix (geo_mbd hI hF_ (of_decide_eq_false (show decide (y > 1) = false by assumption))) (of_decide_eq_true (show decide (i ≥ 0) = true by assumption)); have e_ := row_pl hI.row; simp only [List.length_append, List.length_singleton] at this; omega) ?_; conv => whnf)
    | (refine force_eq (take_pt (ps := (L ++ [(x, y)])) (i := i.toNat) ?_ ?_) ?_; (focus (have := of_decide_eq_true (show decide (i ≥ 0) = true by assumption); omega)); (focus (have := hI2.ix (geo_mbd hI hF_ (of_decide_eq_false (show decide (y > 1) = false by assumption))) (of_decide_eq_true (show decide (i ≥ 0) = true by assumption)); omega)); conv => whnf)
    | (refine force_eq (take_pt0 (ps := (L ++ [(x, y)])) (i := i.toNat) ?_ ?_) ?_; (focus (have := of_decide_eq_true (show decide (i ≥ 0) = true by assumption); omega)); (focus (have := hI2.ix (geo_mbd hI hF_ (of_decide_eq_false (show decide (y > 1) = false by assumption))) (of_decide_eq_true (show decide (i ≥ 0) = true by assumption)); omega)); conv => whnf)
    | (refine force_eq (take_pt1 (ps := (L ++ [(x, y)])) (i := i.toNat) ?_ ?_) ?_; (focus (have := of_decide_eq_true (show decide (i ≥ 0) = true by assumption); omega)); (focus (have := hI2.ix (geo_mbd hI hF_ (of_decide_eq_false (show decide (y > 1) = false by assumption))) (of_decide_eq_true (show decide (i ≥ 0) = true by assumption)); omega)); conv => whnf)
    | (rw [bq_.1, bq_.2.1, bq_.2.2.1, bq_.2.2.2.1, bq_.2.2.2.2, (ap_gbX a b ((L ++ [(x, y)]).getD i.toNat (0, 0))).1, (ap_gbX a b ((L ++ [(x, y)]).getD i.toNat (0, 0))).2]; show AppK _ _ _ 2 _ _ _ _ _; refine app_lit hI2.row rfl rfl rfl (Plain.of rfl) rfl rfl (by decide) (by have := hI2.bd (geo_mbd hI hF_ (of_decide_eq_false (show decide (y > 1) = false by assumption))); show (_ + 1) * 16 ≤ _; omega) (by have := hI2.bd (geo_mbd hI hF_ (of_decide_eq_false (show decide (y > 1) = false by assumption))); omega) (fun hle_ spd_ rd_ => ?_) (fun hle_ cd_ spd_ rd_ => ?_) <;> conv => whnf)
    | (show AppK _ _ _ 2 _ _ _ _ _; refine app_lit hI.row rfl rfl rfl (Plain.of rfl) rfl rfl (by decide) (by have := hI.bd hF_; show (_ + 1) * 16 ≤ _; omega) (by have := hI.bd hF_; omega) (fun hle_ spa_ ra_ => ?_) (fun hle_ ca_ spa_ ra_ => ?_) <;> conv => whnf)
    | (exact (hI.fr.par (by have := (of_decide_eq_true (show decide (y > 1) = true by assumption)); omega)))
    | (exact fr_parR (hI.fr.par (by have := (of_decide_eq_true (show decide (y > 1) = true by assumption)); omega)))
    | (exact fr_parL (hI.fr.par (by have := (of_decide_eq_true (show decide (y > 1) = true by assumption)); omega)))
    | (show (1 : Int) ≤ _; first | exact (par_det (hI.fr.par (by have := (of_decide_eq_true (show decide (y > 1) = true by assumption)); omega))).2.2.1.1 | exact (par_det (hI.fr.par (by have := (of_decide_eq_true (show decide (y > 1) = true by assumption)); omega))).2.2.2.1.1)
    | (have e_ := geo_same mv_ hM hY_ (hI.fin (of_decide_eq_false (show decide (y > 1) = false by assumption))) (hI2.fin (of_decide_eq_false (show decide (i ≥ 0) = false by assumption))); subst e_; have hl_ := row_pl hI2.row; have hb_ := geo_bd mv_ hM; exact out_forget [3] ⟨_, _, _, hI2.row, by omega, rfl, rfl⟩ rfl (okB2_spec rfl) ⟨⟨⟨_, rfl, .plain rfl rfl (Row.all hI2.row)⟩⟩, trivial⟩ rfl rfl)
    | (refine StoreK.mk rfl ?_; conv => whnf)
    | exact join_same
    | exact (by assumption : (_ : Bool) = (_ : Bool))
    | (refine br_true (by assumption) ?_; conv => whnf)
    | (refine br_false (by assumption) ?_; conv => whnf)
    | (refine br_not ?_; conv => whnf)
    | (refine br_code ?_; conv => whnf)
    | (with_reducible refine br_and ?_; conv => whnf)
    | (with_reducible refine br_or ?_; conv => whnf)
    | (refine br_eq2 ?_; conv => whnf)
    | (refine c_l05Code_1.call1 rfl rfl ⟨_, rfl⟩ ?_; conv => whnf)
    | (refine c_l05Code_1.quiet1 rfl rfl ⟨_, rfl⟩ ?_; conv => whnf)
    | (refine c_l05Code_2.call1 rfl rfl ⟨_, rfl⟩ ?_; conv => whnf)
    | (refine c_l05Code_2.quiet1 rfl rfl ⟨_, rfl⟩ ?_; conv => whnf)
    | (refine c_l05Code_3.call1 rfl rfl ⟨_, rfl⟩ ?_; conv => whnf)
    | (refine c_l05Code_3.quiet1 rfl rfl ⟨_, rfl⟩ ?_; conv => whnf)
    | (refine (c_spec_l05Moved ?_).call ?_ <;> conv => whnf)
    | (refine (c_spec_l05Moved ?_).quiet ?_ <;> conv => whnf)
    | (refine (c_spec_l05Frame ?_).call ?_ <;> conv => whnf)
    | (refine (c_spec_l05Frame ?_).quiet ?_ <;> conv => whnf)
    | (refine c_spec_l01Minus.call ?_; conv => whnf)
    | (refine c_spec_l01Minus.quiet ?_; conv => whnf)
    | (refine (c_spec_l05Parents ?_).call ?_ <;> conv => whnf)
    | (refine (c_spec_l05Parents ?_).quiet ?_ <;> conv => whnf)
    | (refine (c_spec_l05Level ?_ ?_).call ?_ <;> conv => whnf)
    | (refine (c_spec_l05Level ?_ ?_).quiet ?_ <;> conv => whnf)
    | (refine c_spec_l01Apply.call ?_; conv => whnf)
    | (refine c_spec_l01Apply.quiet ?_; conv => whnf)
    | (refine c_spec_l05Turn.call ?_; conv => whnf)
    | (refine c_spec_l05Turn.quiet ?_; conv => whnf)
    | (refine draw_auto (by decide +kernel) ?_; conv => whnf)
    | (refine draw_asg (by decide +kernel) ?_; conv => whnf)
    | (refine draw_st (by decide +kernel) ?_; conv => whnf)
    | (refine draw_call (by decide +kernel) ?_; conv => whnf)
    | (refine enter_same (loop_n 12 ?_); conv => whnf)
    | (refine next_same ?_; conv => whnf)
    | (refine mapK_row (by assumption) ?_; conv => whnf)
    | (refine mapK_plain (Plain.of rfl) ?_; conv => whnf)
    | (refine mapK_lit ?_; conv => whnf)
    | (refine br_split (fun _ => ?_) (fun _ => ?_) <;> conv => whnf)
    | exact (rfl : (_ : Value) = _)
    | (simp only [*]; exact (rfl : (_ : Value) = _))
    | (simp [*]; done))

end Go.Proofs.Ytnjepaboecijcaa
end

section
/-
  Contracts of functions of the program (printed by a program of this work; Lean checks each).
  Conditions: as each contract states.
-/
namespace Go.Proofs.Ytnjepaboecijcaa
open Go.Ev Go.RowKit
set_option maxRecDepth 100000
set_option linter.unusedVariables false
set_option linter.unusedSimpArgs false

attribute [local irreducible] isPtF isFracF plusF detF turnX turnY mateX mateY movX movY levL gnx chn geoL

theorem c_spec_GeodesicOf_same {a b : Int} (hp : isPtF a b = true) (hf : isFracF a b = true) : CallOK Try.prog n_spec_GeodesicOf [pt a b, pt a b] [] (fun v m_ => ∃ n k sp, Row (pl (geoL a b a b)) sp n k 2 ∧ n ≤ 1000001 ∧ v = t2 (.slice (some ⟨0, 0, none⟩) n k) (ii 0) ∧ m_ = [(pl (geoL a b a b) ++ sp, some t_impl_Point)]) := by
  have s1_ := mov_self hf; have hM_ : isPtF (movX a b a b) (movY a b a b) = true := (by rw [s1_.1, s1_.2]; exact isPtF_iff.2 (by omega)); have hp2_ : (isPtF a b && isPtF a b) = true := (by rw [hp]; rfl); have hf2_ : (isFracF a b && isFracF a b) = true := (by rw [hf]; rfl); have e_ := geo_self hf; rw [e_]; refine callOK_ofF good fn_spec_GeodesicOf ?_
  conv => whnf
  all_goals (repeat' first
    | (refine br_fault ?_; conv => whnf)
    | exact hp2_
    | exact hf2_
    | (refine br_true (decide_eq_true (rfl : (a : Int) = a)) ?_; conv => whnf)
    | (refine br_true (decide_eq_true (rfl : (b : Int) = b)) ?_; conv => whnf)
    | exact out_forget [3] ⟨1, 1, [], Row.lit rfl rfl, by omega, rfl, rfl⟩ rfl (okB2_spec rfl) ⟨⟨⟨_, rfl, .plain rfl rfl (by first | exact Plain.of rfl | exact Row.all (by assumption))⟩⟩, trivial⟩ rfl rfl
    | (refine StoreK.mk rfl ?_; conv => whnf)
    | exact join_same
    | exact (by assumption : (_ : Bool) = (_ : Bool))
    | (refine br_true (by assumption) ?_; conv => whnf)
    | (refine br_false (by assumption) ?_; conv => whnf)
    | (refine br_not ?_; conv => whnf)
    | (refine br_code ?_; conv => whnf)
    | (with_reducible refine br_and ?_; conv => whnf)
    | (with_reducible refine br_or ?_; conv => whnf)
    | (refine br_eq2 ?_; conv => whnf)
    | (refine c_l05Code_1.call1 rfl rfl ⟨_, rfl⟩ ?_; conv => whnf)
    | (refine c_l05Code_1.quiet1 rfl rfl ⟨_, rfl⟩ ?_; conv => whnf)
    | (refine c_l05Code_2.call1 rfl rfl ⟨_, rfl⟩ ?_; conv => whnf)
    | (refine c_l05Code_2.quiet1 rfl rfl ⟨_, rfl⟩ ?_; conv => whnf)
    | (refine c_l05Code_3.call1 rfl rfl ⟨_, rfl⟩ ?_; conv => whnf)
    | (refine c_l05Code_3.quiet1 rfl rfl ⟨_, rfl⟩ ?_; conv => whnf)
    | (refine (c_spec_l05Moved ?_).call ?_ <;> conv => whnf)
    | (refine (c_spec_l05Moved ?_).quiet ?_ <;> conv => whnf)
    | (refine (c_spec_l05Frame ?_).call ?_ <;> conv => whnf)
    | (refine (c_spec_l05Frame ?_).quiet ?_ <;> conv => whnf)
    | (refine c_spec_l01Minus.call ?_; conv => whnf)
    | (refine c_spec_l01Minus.quiet ?_; conv => whnf)
    | (refine (c_spec_l05Parents ?_).call ?_ <;> conv => whnf)
    | (refine (c_spec_l05Parents ?_).quiet ?_ <;> conv => whnf)
    | (refine (c_spec_l05Level ?_ ?_).call ?_ <;> conv => whnf)
    | (refine (c_spec_l05Level ?_ ?_).quiet ?_ <;> conv => whnf)
    | (refine c_spec_l01Apply.call ?_; conv => whnf)
    | (refine c_spec_l01Apply.quiet ?_; conv => whnf)
    | (refine c_spec_l05Turn.call ?_; conv => whnf)
    | (refine c_spec_l05Turn.quiet ?_; conv => whnf)
    | (refine draw_auto (by decide +kernel) ?_; conv => whnf)
    | (refine draw_asg (by decide +kernel) ?_; conv => whnf)
    | (refine draw_st (by decide +kernel) ?_; conv => whnf)
    | (refine draw_call (by decide +kernel) ?_; conv => whnf)
    | (refine enter_same (loop_n 12 ?_); conv => whnf)
    | (refine next_same ?_; conv => whnf)
    | (refine mapK_row (by assumption) ?_; conv => whnf)
    | (refine mapK_plain (Plain.of rfl) ?_; conv => whnf)
    | (refine mapK_lit ?_; conv => whnf)
    | (refine br_split (fun _ => ?_) (fun _ => ?_) <;> conv => whnf)
    | exact (rfl : (_ : Value) = _)
    | (simp only [*]; exact (rfl : (_ : Value) = _))
    | (simp [*]; done))

theorem c_impl_GeodesicOf_same {a b : Int} (hp : isPtF a b = true) (hf : isFracF a b = true) : CallOK Try.prog n_impl_GeodesicOf [pt a b, pt a b] [] (fun v m_ => ∃ n k sp, Row (pl (geoL a b a b)) sp n k 2 ∧ n ≤ 1000001 ∧ v = t2 (.slice (some ⟨0, 0, none⟩) n k) (ii 0) ∧ m_ = [(pl (geoL a b a b) ++ sp, some t_impl_Point)]) := by
  have s1_ := mov_self hf; have hM_ : isPtF (movX a b a b) (movY a b a b) = true := (by rw [s1_.1, s1_.2]; exact isPtF_iff.2 (by omega)); have hp2_ : (isPtF a b && isPtF a b) = true := (by rw [hp]; rfl); have hf2_ : (isFracF a b && isFracF a b) = true := (by rw [hf]; rfl); have e_ := geo_self hf; exact c_impl_GeodesicOf_ok hp2_ hf2_ hM_

theorem c_spec_GeodesicOf_no3 {a b c d : Int} (hp : (isPtF a b && isPtF c d) = true) (hf : (isFracF a b && isFracF c d) = true) (hn : ¬ (a = c ∧ b = d)) (hM : isPtF (movX a b c d) (movY a b c d) = false) : CallOK Try.prog n_spec_GeodesicOf [pt a b, pt c d] [] (fun v m_ => v = t2 (.slice none 0 0) (ii 3) ∧ m_ = []) := by
  have hq_ : isPtF a b = true ∧ isPtF c d = true := (by simpa using hp); have hg_ : isFracF a b = true ∧ isFracF c d = true := (by simpa using hf); have p1_ := hq_.1; have p2_ := hq_.2; have mv_ : MovOk a b c d := ⟨hg_.1, hg_.2⟩; refine callOK_ofF good fn_spec_GeodesicOf ?_
  conv => whnf
  all_goals (repeat' first
    | (refine br_fault ?_; conv => whnf)
    | exact hM
    | exact p1_
    | exact absurd (And.intro (eq_of_dec (show decide (a = c) = true by assumption)) (eq_of_dec (show decide (b = d) = true by assumption))) hn
    | exact out_forget [] ⟨rfl, rfl⟩ rfl (okB2_spec rfl) trivial rfl rfl
    | (rw [hp, hf]; exact out_forget [] ⟨rfl, rfl⟩ rfl (okB2_spec rfl) trivial rfl rfl)
    | (rw [hp]; exact out_forget [] ⟨rfl, rfl⟩ rfl (okB2_spec rfl) trivial rfl rfl)
    | (refine StoreK.mk rfl ?_; conv => whnf)
    | exact join_same
    | exact (by assumption : (_ : Bool) = (_ : Bool))
    | (refine br_true (by assumption) ?_; conv => whnf)
    | (refine br_false (by assumption) ?_; conv => whnf)
    | (refine br_not ?_; conv => whnf)
    | (refine br_code ?_; conv => whnf)
    | (with_reducible refine br_and ?_; conv => whnf)
    | (with_reducible refine br_or ?_; conv => whnf)
    | (refine br_eq2 ?_; conv => whnf)
    | (refine c_l05Code_1.call1 rfl rfl ⟨_, rfl⟩ ?_; conv => whnf)
    | (refine c_l05Code_1.quiet1 rfl rfl ⟨_, rfl⟩ ?_; conv => whnf)
    | (refine c_l05Code_2.call1 rfl rfl ⟨_, rfl⟩ ?_; conv => whnf)
    | (refine c_l05Code_2.quiet1 rfl rfl ⟨_, rfl⟩ ?_; conv => whnf)
    | (refine c_l05Code_3.call1 rfl rfl ⟨_, rfl⟩ ?_; conv => whnf)
    | (refine c_l05Code_3.quiet1 rfl rfl ⟨_, rfl⟩ ?_; conv => whnf)
    | (refine (c_spec_l05Moved ?_).call ?_ <;> conv => whnf)
    | (refine (c_spec_l05Moved ?_).quiet ?_ <;> conv => whnf)
    | (refine (c_spec_l05Frame ?_).call ?_ <;> conv => whnf)
    | (refine (c_spec_l05Frame ?_).quiet ?_ <;> conv => whnf)
    | (refine c_spec_l01Minus.call ?_; conv => whnf)
    | (refine c_spec_l01Minus.quiet ?_; conv => whnf)
    | (refine (c_spec_l05Parents ?_).call ?_ <;> conv => whnf)
    | (refine (c_spec_l05Parents ?_).quiet ?_ <;> conv => whnf)
    | (refine (c_spec_l05Level ?_ ?_).call ?_ <;> conv => whnf)
    | (refine (c_spec_l05Level ?_ ?_).quiet ?_ <;> conv => whnf)
    | (refine c_spec_l01Apply.call ?_; conv => whnf)
    | (refine c_spec_l01Apply.quiet ?_; conv => whnf)
    | (refine c_spec_l05Turn.call ?_; conv => whnf)
    | (refine c_spec_l05Turn.quiet ?_; conv => whnf)
    | (refine draw_auto (by decide +kernel) ?_; conv => whnf)
    | (refine draw_asg (by decide +kernel) ?_; conv => whnf)
    | (refine draw_st (by decide +kernel) ?_; conv => whnf)
    | (refine draw_call (by decide +kernel) ?_; conv => whnf)
    | (refine enter_same (loop_n 12 ?_); conv => whnf)
    | (refine next_same ?_; conv => whnf)
    | (refine mapK_row (by assumption) ?_; conv => whnf)
    | (refine mapK_plain (Plain.of rfl) ?_; conv => whnf)
    | (refine mapK_lit ?_; conv => whnf)
    | (refine br_split (fun _ => ?_) (fun _ => ?_) <;> conv => whnf)
    | exact (rfl : (_ : Value) = _)
    | (simp only [*]; exact (rfl : (_ : Value) = _))
    | (simp [*]; done))

theorem c_spec_GeodesicOf_no2 {a b c d : Int} (hp : (isPtF a b && isPtF c d) = true) (hf : (isFracF a b && isFracF c d) = false) : CallOK Try.prog n_spec_GeodesicOf [pt a b, pt c d] [] (fun v m_ => v = t2 (.slice none 0 0) (ii 2) ∧ m_ = []) := by
  refine callOK_ofF good fn_spec_GeodesicOf ?_
  conv => whnf
  all_goals (repeat' first
    | (refine br_fault ?_; conv => whnf)
    | exact hM
    | exact p1_
    | exact absurd (And.intro (eq_of_dec (show decide (a = c) = true by assumption)) (eq_of_dec (show decide (b = d) = true by assumption))) hn
    | exact out_forget [] ⟨rfl, rfl⟩ rfl (okB2_spec rfl) trivial rfl rfl
    | (rw [hp, hf]; exact out_forget [] ⟨rfl, rfl⟩ rfl (okB2_spec rfl) trivial rfl rfl)
    | (rw [hp]; exact out_forget [] ⟨rfl, rfl⟩ rfl (okB2_spec rfl) trivial rfl rfl)
    | (refine StoreK.mk rfl ?_; conv => whnf)
    | exact join_same
    | exact (by assumption : (_ : Bool) = (_ : Bool))
    | (refine br_true (by assumption) ?_; conv => whnf)
    | (refine br_false (by assumption) ?_; conv => whnf)
    | (refine br_not ?_; conv => whnf)
    | (refine br_code ?_; conv => whnf)
    | (with_reducible refine br_and ?_; conv => whnf)
    | (with_reducible refine br_or ?_; conv => whnf)
    | (refine br_eq2 ?_; conv => whnf)
    | (refine c_l05Code_1.call1 rfl rfl ⟨_, rfl⟩ ?_; conv => whnf)
    | (refine c_l05Code_1.quiet1 rfl rfl ⟨_, rfl⟩ ?_; conv => whnf)
    | (refine c_l05Code_2.call1 rfl rfl ⟨_, rfl⟩ ?_; conv => whnf)
    | (refine c_l05Code_2.quiet1 rfl rfl ⟨_, rfl⟩ ?_; conv => whnf)
    | (refine c_l05Code_3.call1 rfl rfl ⟨_, rfl⟩ ?_; conv => whnf)
    | (refine c_l05Code_3.quiet1 rfl rfl ⟨_, rfl⟩ ?_; conv => whnf)
    | (refine (c_spec_l05Moved ?_).call ?_ <;> conv => whnf)
    | (refine (c_spec_l05Moved ?_).quiet ?_ <;> conv => whnf)
    | (refine (c_spec_l05Frame ?_).call ?_ <;> conv => whnf)
    | (refine (c_spec_l05Frame ?_).quiet ?_ <;> conv => whnf)
    | (refine c_spec_l01Minus.call ?_; conv => whnf)
    | (refine c_spec_l01Minus.quiet ?_; conv => whnf)
    | (refine (c_spec_l05Parents ?_).call ?_ <;> conv => whnf)
    | (refine (c_spec_l05Parents ?_).quiet ?_ <;> conv => whnf)
    | (refine (c_spec_l05Level ?_ ?_).call ?_ <;> conv => whnf)
    | (refine (c_spec_l05Level ?_ ?_).quiet ?_ <;> conv => whnf)
    | (refine c_spec_l01Apply.call ?_; conv => whnf)
    | (refine c_spec_l01Apply.quiet ?_; conv => whnf)
    | (refine c_spec_l05Turn.call ?_; conv => whnf)
    | (refine c_spec_l05Turn.quiet ?_; conv => whnf)
    | (refine draw_auto (by decide +kernel) ?_; conv => whnf)
    | (refine draw_asg (by decide +kernel) ?_; conv => whnf)
    | (refine draw_st (by decide +kernel) ?_; conv => whnf)
    | (refine draw_call (by decide +kernel) ?_; conv => whnf)
    | (refine enter_same (loop_n 12 ?_); conv => whnf)
    | (refine next_same ?_; conv => whnf)
    | (refine mapK_row (by assumption) ?_; conv => whnf)
    | (refine mapK_plain (Plain.of rfl) ?_; conv => whnf)
    | (refine mapK_lit ?_; conv => whnf)
    | (refine br_split (fun _ => ?_) (fun _ => ?_) <;> conv => whnf)
    | exact (rfl : (_ : Value) = _)
    | (simp only [*]; exact (rfl : (_ : Value) = _))
    | (simp [*]; done))

theorem c_spec_GeodesicOf_no1 {a b c d : Int} (hp : (isPtF a b && isPtF c d) = false) : CallOK Try.prog n_spec_GeodesicOf [pt a b, pt c d] [] (fun v m_ => v = t2 (.slice none 0 0) (ii 1) ∧ m_ = []) := by
  refine callOK_ofF good fn_spec_GeodesicOf ?_
  conv => whnf
  all_goals (repeat' first
    | (refine br_fault ?_; conv => whnf)
    | exact hM
    | exact p1_
    | exact absurd (And.intro (eq_of_dec (show decide (a = c) = true by assumption)) (eq_of_dec (show decide (b = d) = true by assumption))) hn
    | exact out_forget [] ⟨rfl, rfl⟩ rfl (okB2_spec rfl) trivial rfl rfl
    | (rw [hp, hf]; exact out_forget [] ⟨rfl, rfl⟩ rfl (okB2_spec rfl) trivial rfl rfl)
    | (rw [hp]; exact out_forget [] ⟨rfl, rfl⟩ rfl (okB2_spec rfl) trivial rfl rfl)
    | (refine StoreK.mk rfl ?_; conv => whnf)
    | exact join_same
    | exact (by assumption : (_ : Bool) = (_ : Bool))
    | (refine br_true (by assumption) ?_; conv => whnf)
    | (refine br_false (by assumption) ?_; conv => whnf)
    | (refine br_not ?_; conv => whnf)
    | (refine br_code ?_; conv => whnf)
    | (with_reducible refine br_and ?_; conv => whnf)
    | (with_reducible refine br_or ?_; conv => whnf)
    | (refine br_eq2 ?_; conv => whnf)
    | (refine c_l05Code_1.call1 rfl rfl ⟨_, rfl⟩ ?_; conv => whnf)
    | (refine c_l05Code_1.quiet1 rfl rfl ⟨_, rfl⟩ ?_; conv => whnf)
    | (refine c_l05Code_2.call1 rfl rfl ⟨_, rfl⟩ ?_; conv => whnf)
    | (refine c_l05Code_2.quiet1 rfl rfl ⟨_, rfl⟩ ?_; conv => whnf)
    | (refine c_l05Code_3.call1 rfl rfl ⟨_, rfl⟩ ?_; conv => whnf)
    | (refine c_l05Code_3.quiet1 rfl rfl ⟨_, rfl⟩ ?_; conv => whnf)
    | (refine (c_spec_l05Moved ?_).call ?_ <;> conv => whnf)
    | (refine (c_spec_l05Moved ?_).quiet ?_ <;> conv => whnf)
    | (refine (c_spec_l05Frame ?_).call ?_ <;> conv => whnf)
    | (refine (c_spec_l05Frame ?_).quiet ?_ <;> conv => whnf)
    | (refine c_spec_l01Minus.call ?_; conv => whnf)
    | (refine c_spec_l01Minus.quiet ?_; conv => whnf)
    | (refine (c_spec_l05Parents ?_).call ?_ <;> conv => whnf)
    | (refine (c_spec_l05Parents ?_).quiet ?_ <;> conv => whnf)
    | (refine (c_spec_l05Level ?_ ?_).call ?_ <;> conv => whnf)
    | (refine (c_spec_l05Level ?_ ?_).quiet ?_ <;> conv => whnf)
    | (refine c_spec_l01Apply.call ?_; conv => whnf)
    | (refine c_spec_l01Apply.quiet ?_; conv => whnf)
    | (refine c_spec_l05Turn.call ?_; conv => whnf)
    | (refine c_spec_l05Turn.quiet ?_; conv => whnf)
    | (refine draw_auto (by decide +kernel) ?_; conv => whnf)
    | (refine draw_asg (by decide +kernel) ?_; conv => whnf)
    | (refine draw_st (by decide +kernel) ?_; conv => whnf)
    | (refine draw_call (by decide +kernel) ?_; conv => whnf)
    | (refine enter_same (loop_n 12 ?_); conv => whnf)
    | (refine next_same ?_; conv => whnf)
    | (refine mapK_row (by assumption) ?_; conv => whnf)
    | (refine mapK_plain (Plain.of rfl) ?_; conv => whnf)
    | (refine mapK_lit ?_; conv => whnf)
    | (refine br_split (fun _ => ?_) (fun _ => ?_) <;> conv => whnf)
    | exact (rfl : (_ : Value) = _)
    | (simp only [*]; exact (rfl : (_ : Value) = _))
    | (simp [*]; done))

end Go.Proofs.Ytnjepaboecijcaa
end

section
/-
  Contracts of functions of the program (printed by a program of this work; Lean checks each).
  Conditions: as each contract states.
-/
namespace Go.Proofs.Ytnjepaboecijcaa
open Go.Ev Go.RowKit
set_option maxRecDepth 100000
set_option linter.unusedVariables false
set_option linter.unusedSimpArgs false

attribute [local irreducible] isPtF isFracF plusF detF turnX turnY mateX mateY movX movY levL gnx chn geoL

theorem c_law_GeodesicOf_ok {a b c d : Int} (hp : (isPtF a b && isPtF c d) = true) (hf : (isFracF a b && isFracF c d) = true) (hn : ¬ (a = c ∧ b = d)) (hM : isPtF (movX a b c d) (movY a b c d) = true) : Pure Try.prog n_laws_FnExactGeodesicOf [pt a b, pt c d] (bb true) := by
  refine pure_of good fn_laws_FnExactGeodesicOf rfl rfl ?_
  conv => whnf
  all_goals (repeat' first
    | (refine br_true ?_ ?_; (focus (simp; done)); conv => whnf)
    | (refine br_false ?_ ?_; (focus (simp; done)); conv => whnf)
    | (refine br_false (decide_eq_false (by omega)) ?_; conv => whnf)
    | (refine draw_call (by decide +kernel) ?_; conv => whnf)
    | (refine StoreK.mk rfl ?_; conv => whnf)
    | exact join_same
    | exact (by assumption : (_ : Bool) = (_ : Bool))
    | (refine br_true (by assumption) ?_; conv => whnf)
    | (refine br_false (by assumption) ?_; conv => whnf)
    | (refine br_not ?_; conv => whnf)
    | (refine br_code ?_; conv => whnf)
    | (with_reducible refine br_and ?_; conv => whnf)
    | (with_reducible refine br_or ?_; conv => whnf)
    | (refine br_eq2 ?_; conv => whnf)
    | (refine c_laws_toPoint.call ?_; conv => whnf)
    | (refine c_laws_toPoint.quiet ?_; conv => whnf)
    | (refine CallOK.useR (c_spec_GeodesicOf_ok (by first | assumption | exact Row.lit rfl rfl | omega) (by first | assumption | exact Row.lit rfl rfl | omega) (by first | assumption | exact Row.lit rfl rfl | omega) (by first | assumption | exact Row.lit rfl rfl | omega)) [] rfl rfl rfl trivial (fun v_ mem_ hR => ?_); obtain ⟨n_, c_, sp_, hrow_, hn_, rfl, rfl⟩ := hR; refine ⟨rfl, ?_⟩; conv => whnf)
    | (refine CallOK.useR (c_impl_GeodesicOf_ok (by first | assumption | exact Row.lit rfl rfl | omega) (by first | assumption | exact Row.lit rfl rfl | omega) (by first | assumption | exact Row.lit rfl rfl | omega)) [] rfl rfl rfl trivial (fun v_ mem_ hR => ?_); obtain ⟨n_, c_, sp_, hrow_, hn_, rfl, rfl⟩ := hR; refine ⟨rfl, ?_⟩; conv => whnf)
    | (refine CallOK.useR (c_laws_eqPointS (by first | assumption | exact Row.lit rfl rfl | omega) (by first | assumption | exact Row.lit rfl rfl | omega) (by first | assumption | exact Row.lit rfl rfl | omega)) [_, _] rfl rfl rfl ⟨⟨⟨_, rfl, .plain rfl (fun _ h_ => by first | exact h_ | cases h_) (by first | exact Plain.of rfl | exact Row.all (by assumption))⟩⟩, ⟨⟨_, rfl, .plain rfl (fun _ h_ => by first | exact h_ | cases h_) (by first | exact Plain.of rfl | exact Row.all (by assumption))⟩⟩, trivial⟩ (fun v_ mem_ hR => ?_); obtain ⟨rfl, rfl⟩ := hR; refine ⟨rfl, ?_⟩; conv => whnf)
    | (refine c_eqPointS_nil.call ?_; conv => whnf)
    | (refine c_eqPointS_nil.quiet ?_; conv => whnf)
    | (refine CallOK.useR c_eqPointS_empty [_, _] rfl rfl rfl ⟨⟨⟨_, rfl, .plain rfl (fun _ h_ => by first | exact h_ | cases h_) (by first | exact Plain.of rfl | exact Row.all (by assumption))⟩⟩, ⟨⟨_, rfl, .plain rfl (fun _ h_ => by first | exact h_ | cases h_) (by first | exact Plain.of rfl | exact Row.all (by assumption))⟩⟩, trivial⟩ (fun v_ mem_ hR => ?_); obtain ⟨rfl, rfl⟩ := hR; refine ⟨rfl, ?_⟩; conv => whnf)
    | (refine CallOK.useR (c_laws_markPointS (by first | assumption | exact Row.lit rfl rfl | omega) (by first | assumption | exact Row.lit rfl rfl | omega) (by first | assumption | exact Row.lit rfl rfl | omega)) [_] rfl rfl rfl ⟨⟨⟨_, rfl, .plain rfl (fun _ h_ => by first | exact h_ | cases h_) (by first | exact Plain.of rfl | exact Row.all (by assumption))⟩⟩, trivial⟩ (fun v_ mem_ hR => ?_); obtain ⟨sq_, hrow_, rfl, rfl⟩ := hR; refine ⟨rfl, ?_⟩; conv => whnf)
    | (refine c_markPointS_nil.call ?_; conv => whnf)
    | (refine c_markPointS_nil.quiet ?_; conv => whnf)
    | (refine CallOK.useR (c_laws_heldPointS (by first | assumption | exact Row.lit rfl rfl | omega) (by first | assumption | exact Row.lit rfl rfl | omega) (by first | assumption | exact Row.lit rfl rfl | omega)) [_] rfl rfl rfl ⟨⟨⟨_, rfl, .plain rfl (fun _ h_ => by first | exact h_ | cases h_) (by first | exact Plain.of rfl | exact Row.all (by assumption))⟩⟩, trivial⟩ (fun v_ mem_ hR => ?_); obtain ⟨rfl, rfl⟩ := hR; refine ⟨rfl, ?_⟩; conv => whnf)
    | (refine c_heldPointS_nil.call ?_; conv => whnf)
    | (refine c_heldPointS_nil.quiet ?_; conv => whnf)
    | (refine draw_auto (by decide +kernel) ?_; conv => whnf)
    | (refine draw_asg (by decide +kernel) ?_; conv => whnf)
    | (refine draw_st (by decide +kernel) ?_; conv => whnf)
    | (refine draw_call (by decide +kernel) ?_; conv => whnf)
    | (refine enter_same (loop_n 12 ?_); conv => whnf)
    | (refine next_same ?_; conv => whnf)
    | (refine mapK_row (by assumption) ?_; conv => whnf)
    | (refine mapK_plain (Plain.of rfl) ?_; conv => whnf)
    | (refine mapK_lit ?_; conv => whnf)
    | (refine br_split (fun _ => ?_) (fun _ => ?_) <;> conv => whnf)
    | exact (rfl : (_ : Value) = _)
    | (simp only [*]; exact (rfl : (_ : Value) = _))
    | (simp [*]; done))

theorem c_law_GeodesicOf_same {a b : Int} (hp : isPtF a b = true) (hf : isFracF a b = true) : Pure Try.prog n_laws_FnExactGeodesicOf [pt a b, pt a b] (bb true) := by
  refine pure_of good fn_laws_FnExactGeodesicOf rfl rfl ?_
  conv => whnf
  all_goals (repeat' first
    | (refine br_true ?_ ?_; (focus (simp; done)); conv => whnf)
    | (refine br_false ?_ ?_; (focus (simp; done)); conv => whnf)
    | (refine br_false (decide_eq_false (by omega)) ?_; conv => whnf)
    | (refine draw_call (by decide +kernel) ?_; conv => whnf)
    | (refine StoreK.mk rfl ?_; conv => whnf)
    | exact join_same
    | exact (by assumption : (_ : Bool) = (_ : Bool))
    | (refine br_true (by assumption) ?_; conv => whnf)
    | (refine br_false (by assumption) ?_; conv => whnf)
    | (refine br_not ?_; conv => whnf)
    | (refine br_code ?_; conv => whnf)
    | (with_reducible refine br_and ?_; conv => whnf)
    | (with_reducible refine br_or ?_; conv => whnf)
    | (refine br_eq2 ?_; conv => whnf)
    | (refine c_laws_toPoint.call ?_; conv => whnf)
    | (refine c_laws_toPoint.quiet ?_; conv => whnf)
    | (refine CallOK.useR (c_spec_GeodesicOf_same (by first | assumption | exact Row.lit rfl rfl | omega) (by first | assumption | exact Row.lit rfl rfl | omega)) [] rfl rfl rfl trivial (fun v_ mem_ hR => ?_); obtain ⟨n_, c_, sp_, hrow_, hn_, rfl, rfl⟩ := hR; refine ⟨rfl, ?_⟩; conv => whnf)
    | (refine CallOK.useR (c_impl_GeodesicOf_same (by first | assumption | exact Row.lit rfl rfl | omega) (by first | assumption | exact Row.lit rfl rfl | omega)) [] rfl rfl rfl trivial (fun v_ mem_ hR => ?_); obtain ⟨n_, c_, sp_, hrow_, hn_, rfl, rfl⟩ := hR; refine ⟨rfl, ?_⟩; conv => whnf)
    | (refine CallOK.useR (c_laws_eqPointS (by first | assumption | exact Row.lit rfl rfl | omega) (by first | assumption | exact Row.lit rfl rfl | omega) (by first | assumption | exact Row.lit rfl rfl | omega)) [_, _] rfl rfl rfl ⟨⟨⟨_, rfl, .plain rfl (fun _ h_ => by first | exact h_ | cases h_) (by first | exact Plain.of rfl | exact Row.all (by assumption))⟩⟩, ⟨⟨_, rfl, .plain rfl (fun _ h_ => by first | exact h_ | cases h_) (by first | exact Plain.of rfl | exact Row.all (by assumption))⟩⟩, trivial⟩ (fun v_ mem_ hR => ?_); obtain ⟨rfl, rfl⟩ := hR; refine ⟨rfl, ?_⟩; conv => whnf)
    | (refine c_eqPointS_nil.call ?_; conv => whnf)
    | (refine c_eqPointS_nil.quiet ?_; conv => whnf)
    | (refine CallOK.useR c_eqPointS_empty [_, _] rfl rfl rfl ⟨⟨⟨_, rfl, .plain rfl (fun _ h_ => by first | exact h_ | cases h_) (by first | exact Plain.of rfl | exact Row.all (by assumption))⟩⟩, ⟨⟨_, rfl, .plain rfl (fun _ h_ => by first | exact h_ | cases h_) (by first | exact Plain.of rfl | exact Row.all (by assumption))⟩⟩, trivial⟩ (fun v_ mem_ hR => ?_); obtain ⟨rfl, rfl⟩ := hR; refine ⟨rfl, ?_⟩; conv => whnf)
    | (refine CallOK.useR (c_laws_markPointS (by first | assumption | exact Row.lit rfl rfl | omega) (by first | assumption | exact Row.lit rfl rfl | omega) (by first | assumption | exact Row.lit rfl rfl | omega)) [_] rfl rfl rfl ⟨⟨⟨_, rfl, .plain rfl (fun _ h_ => by first | exact h_ | cases h_) (by first | exact Plain.of rfl | exact Row.all (by assumption))⟩⟩, trivial⟩ (fun v_ mem_ hR => ?_); obtain ⟨sq_, hrow_, rfl, rfl⟩ := hR; refine ⟨rfl, ?_⟩; conv => whnf)
    | (refine c_markPointS_nil.call ?_; conv => whnf)
    | (refine c_markPointS_nil.quiet ?_; conv => whnf)
    | (refine CallOK.useR (c_laws_heldPointS (by first | assumption | exact Row.lit rfl rfl | omega) (by first | assumption | exact Row.lit rfl rfl | omega) (by first | assumption | exact Row.lit rfl rfl | omega)) [_] rfl rfl rfl ⟨⟨⟨_, rfl, .plain rfl (fun _ h_ => by first | exact h_ | cases h_) (by first | exact Plain.of rfl | exact Row.all (by assumption))⟩⟩, trivial⟩ (fun v_ mem_ hR => ?_); obtain ⟨rfl, rfl⟩ := hR; refine ⟨rfl, ?_⟩; conv => whnf)
    | (refine c_heldPointS_nil.call ?_; conv => whnf)
    | (refine c_heldPointS_nil.quiet ?_; conv => whnf)
    | (refine draw_auto (by decide +kernel) ?_; conv => whnf)
    | (refine draw_asg (by decide +kernel) ?_; conv => whnf)
    | (refine draw_st (by decide +kernel) ?_; conv => whnf)
    | (refine draw_call (by decide +kernel) ?_; conv => whnf)
    | (refine enter_same (loop_n 12 ?_); conv => whnf)
    | (refine next_same ?_; conv => whnf)
    | (refine mapK_row (by assumption) ?_; conv => whnf)
    | (refine mapK_plain (Plain.of rfl) ?_; conv => whnf)
    | (refine mapK_lit ?_; conv => whnf)
    | (refine br_split (fun _ => ?_) (fun _ => ?_) <;> conv => whnf)
    | exact (rfl : (_ : Value) = _)
    | (simp only [*]; exact (rfl : (_ : Value) = _))
    | (simp [*]; done))

theorem c_law_GeodesicOf_no3 {a b c d : Int} (hp : (isPtF a b && isPtF c d) = true) (hf : (isFracF a b && isFracF c d) = true) (hn : ¬ (a = c ∧ b = d)) (hM : isPtF (movX a b c d) (movY a b c d) = false) : Pure Try.prog n_laws_FnExactGeodesicOf [pt a b, pt c d] (bb true) := by
  refine pure_of good fn_laws_FnExactGeodesicOf rfl rfl ?_
  conv => whnf
  all_goals (repeat' first
    | (refine br_true ?_ ?_; (focus (simp; done)); conv => whnf)
    | (refine br_false ?_ ?_; (focus (simp; done)); conv => whnf)
    | (refine br_false (decide_eq_false (by omega)) ?_; conv => whnf)
    | (refine draw_call (by decide +kernel) ?_; conv => whnf)
    | (refine StoreK.mk rfl ?_; conv => whnf)
    | exact join_same
    | exact (by assumption : (_ : Bool) = (_ : Bool))
    | (refine br_true (by assumption) ?_; conv => whnf)
    | (refine br_false (by assumption) ?_; conv => whnf)
    | (refine br_not ?_; conv => whnf)
    | (refine br_code ?_; conv => whnf)
    | (with_reducible refine br_and ?_; conv => whnf)
    | (with_reducible refine br_or ?_; conv => whnf)
    | (refine br_eq2 ?_; conv => whnf)
    | (refine c_laws_toPoint.call ?_; conv => whnf)
    | (refine c_laws_toPoint.quiet ?_; conv => whnf)
    | (refine CallOK.useR (c_spec_GeodesicOf_no3 (by first | assumption | exact Row.lit rfl rfl | omega) (by first | assumption | exact Row.lit rfl rfl | omega) (by first | assumption | exact Row.lit rfl rfl | omega) (by first | assumption | exact Row.lit rfl rfl | omega)) [] rfl rfl rfl trivial (fun v_ mem_ hR => ?_); obtain ⟨rfl, rfl⟩ := hR; refine ⟨rfl, ?_⟩; conv => whnf)
    | (refine CallOK.useR (c_impl_GeodesicOf_no3 (by first | assumption | exact Row.lit rfl rfl | omega) (by first | assumption | exact Row.lit rfl rfl | omega) (by first | assumption | exact Row.lit rfl rfl | omega)) [] rfl rfl rfl trivial (fun v_ mem_ hR => ?_); obtain ⟨rfl, rfl⟩ := hR; refine ⟨rfl, ?_⟩; conv => whnf)
    | (refine CallOK.useR (c_laws_eqPointS (by first | assumption | exact Row.lit rfl rfl | omega) (by first | assumption | exact Row.lit rfl rfl | omega) (by first | assumption | exact Row.lit rfl rfl | omega)) [_, _] rfl rfl rfl ⟨⟨⟨_, rfl, .plain rfl (fun _ h_ => by first | exact h_ | cases h_) (by first | exact Plain.of rfl | exact Row.all (by assumption))⟩⟩, ⟨⟨_, rfl, .plain rfl (fun _ h_ => by first | exact h_ | cases h_) (by first | exact Plain.of rfl | exact Row.all (by assumption))⟩⟩, trivial⟩ (fun v_ mem_ hR => ?_); obtain ⟨rfl, rfl⟩ := hR; refine ⟨rfl, ?_⟩; conv => whnf)
    | (refine c_eqPointS_nil.call ?_; conv => whnf)
    | (refine c_eqPointS_nil.quiet ?_; conv => whnf)
    | (refine CallOK.useR c_eqPointS_empty [_, _] rfl rfl rfl ⟨⟨⟨_, rfl, .plain rfl (fun _ h_ => by first | exact h_ | cases h_) (by first | exact Plain.of rfl | exact Row.all (by assumption))⟩⟩, ⟨⟨_, rfl, .plain rfl (fun _ h_ => by first | exact h_ | cases h_) (by first | exact Plain.of rfl | exact Row.all (by assumption))⟩⟩, trivial⟩ (fun v_ mem_ hR => ?_); obtain ⟨rfl, rfl⟩ := hR; refine ⟨rfl, ?_⟩; conv => whnf)
    | (refine CallOK.useR (c_laws_markPointS (by first | assumption | exact Row.lit rfl rfl | omega) (by first | assumption | exact Row.lit rfl rfl | omega) (by first | assumption | exact Row.lit rfl rfl | omega)) [_] rfl rfl rfl ⟨⟨⟨_, rfl, .plain rfl (fun _ h_ => by first | exact h_ | cases h_) (by first | exact Plain.of rfl | exact Row.all (by assumption))⟩⟩, trivial⟩ (fun v_ mem_ hR => ?_); obtain ⟨sq_, hrow_, rfl, rfl⟩ := hR; refine ⟨rfl, ?_⟩; conv => whnf)
    | (refine c_markPointS_nil.call ?_; conv => whnf)
    | (refine c_markPointS_nil.quiet ?_; conv => whnf)
    | (refine CallOK.useR (c_laws_heldPointS (by first | assumption | exact Row.lit rfl rfl | omega) (by first | assumption | exact Row.lit rfl rfl | omega) (by first | assumption | exact Row.lit rfl rfl | omega)) [_] rfl rfl rfl ⟨⟨⟨_, rfl, .plain rfl (fun _ h_ => by first | exact h_ | cases h_) (by first | exact Plain.of rfl | exact Row.all (by assumption))⟩⟩, trivial⟩ (fun v_ mem_ hR => ?_); obtain ⟨rfl, rfl⟩ := hR; refine ⟨rfl, ?_⟩; conv => whnf)
    | (refine c_heldPointS_nil.call ?_; conv => whnf)
    | (refine c_heldPointS_nil.quiet ?_; conv => whnf)
    | (refine draw_auto (by decide +kernel) ?_; conv => whnf)
    | (refine draw_asg (by decide +kernel) ?_; conv => whnf)
    | (refine draw_st (by decide +kernel) ?_; conv => whnf)
    | (refine draw_call (by decide +kernel) ?_; conv => whnf)
    | (refine enter_same (loop_n 12 ?_); conv => whnf)
    | (refine next_same ?_; conv => whnf)
    | (refine mapK_row (by assumption) ?_; conv => whnf)
    | (refine mapK_plain (Plain.of rfl) ?_; conv => whnf)
    | (refine mapK_lit ?_; conv => whnf)
    | (refine br_split (fun _ => ?_) (fun _ => ?_) <;> conv => whnf)
    | exact (rfl : (_ : Value) = _)
    | (simp only [*]; exact (rfl : (_ : Value) = _))
    | (simp [*]; done))

theorem c_law_GeodesicOf_no2 {a b c d : Int} (hp : (isPtF a b && isPtF c d) = true) (hf : (isFracF a b && isFracF c d) = false) : Pure Try.prog n_laws_FnExactGeodesicOf [pt a b, pt c d] (bb true) := by
  refine pure_of good fn_laws_FnExactGeodesicOf rfl rfl ?_
  conv => whnf
  all_goals (repeat' first
    | (refine br_true ?_ ?_; (focus (simp; done)); conv => whnf)
    | (refine br_false ?_ ?_; (focus (simp; done)); conv => whnf)
    | (refine br_false (decide_eq_false (by omega)) ?_; conv => whnf)
    | (refine draw_call (by decide +kernel) ?_; conv => whnf)
    | (refine StoreK.mk rfl ?_; conv => whnf)
    | exact join_same
    | exact (by assumption : (_ : Bool) = (_ : Bool))
    | (refine br_true (by assumption) ?_; conv => whnf)
    | (refine br_false (by assumption) ?_; conv => whnf)
    | (refine br_not ?_; conv => whnf)
    | (refine br_code ?_; conv => whnf)
    | (with_reducible refine br_and ?_; conv => whnf)
    | (with_reducible refine br_or ?_; conv => whnf)
    | (refine br_eq2 ?_; conv => whnf)
    | (refine c_laws_toPoint.call ?_; conv => whnf)
    | (refine c_laws_toPoint.quiet ?_; conv => whnf)
    | (refine CallOK.useR (c_spec_GeodesicOf_no2 (by first | assumption | exact Row.lit rfl rfl | omega) (by first | assumption | exact Row.lit rfl rfl | omega)) [] rfl rfl rfl trivial (fun v_ mem_ hR => ?_); obtain ⟨rfl, rfl⟩ := hR; refine ⟨rfl, ?_⟩; conv => whnf)
    | (refine CallOK.useR (c_impl_GeodesicOf_no2 (by first | assumption | exact Row.lit rfl rfl | omega) (by first | assumption | exact Row.lit rfl rfl | omega)) [] rfl rfl rfl trivial (fun v_ mem_ hR => ?_); obtain ⟨rfl, rfl⟩ := hR; refine ⟨rfl, ?_⟩; conv => whnf)
    | (refine CallOK.useR (c_laws_eqPointS (by first | assumption | exact Row.lit rfl rfl | omega) (by first | assumption | exact Row.lit rfl rfl | omega) (by first | assumption | exact Row.lit rfl rfl | omega)) [_, _] rfl rfl rfl ⟨⟨⟨_, rfl, .plain rfl (fun _ h_ => by first | exact h_ | cases h_) (by first | exact Plain.of rfl | exact Row.all (by assumption))⟩⟩, ⟨⟨_, rfl, .plain rfl (fun _ h_ => by first | exact h_ | cases h_) (by first | exact Plain.of rfl | exact Row.all (by assumption))⟩⟩, trivial⟩ (fun v_ mem_ hR => ?_); obtain ⟨rfl, rfl⟩ := hR; refine ⟨rfl, ?_⟩; conv => whnf)
    | (refine c_eqPointS_nil.call ?_; conv => whnf)
    | (refine c_eqPointS_nil.quiet ?_; conv => whnf)
    | (refine CallOK.useR c_eqPointS_empty [_, _] rfl rfl rfl ⟨⟨⟨_, rfl, .plain rfl (fun _ h_ => by first | exact h_ | cases h_) (by first | exact Plain.of rfl | exact Row.all (by assumption))⟩⟩, ⟨⟨_, rfl, .plain rfl (fun _ h_ => by first | exact h_ | cases h_) (by first | exact Plain.of rfl | exact Row.all (by assumption))⟩⟩, trivial⟩ (fun v_ mem_ hR => ?_); obtain ⟨rfl, rfl⟩ := hR; refine ⟨rfl, ?_⟩; conv => whnf)
    | (refine CallOK.useR (c_laws_markPointS (by first | assumption | exact Row.lit rfl rfl | omega) (by first | assumption | exact Row.lit rfl rfl | omega) (by first | assumption | exact Row.lit rfl rfl | omega)) [_] rfl rfl rfl ⟨⟨⟨_, rfl, .plain rfl (fun _ h_ => by first | exact h_ | cases h_) (by first | exact Plain.of rfl | exact Row.all (by assumption))⟩⟩, trivial⟩ (fun v_ mem_ hR => ?_); obtain ⟨sq_, hrow_, rfl, rfl⟩ := hR; refine ⟨rfl, ?_⟩; conv => whnf)
    | (refine c_markPointS_nil.call ?_; conv => whnf)
    | (refine c_markPointS_nil.quiet ?_; conv => whnf)
    | (refine CallOK.useR (c_laws_heldPointS (by first | assumption | exact Row.lit rfl rfl | omega) (by first | assumption | exact Row.lit rfl rfl | omega) (by first | assumption | exact Row.lit rfl rfl | omega)) [_] rfl rfl rfl ⟨⟨⟨_, rfl, .plain rfl (fun _ h_ => by first | exact h_ | cases h_) (by first | exact Plain.of rfl | exact Row.all (by assumption))⟩⟩, trivial⟩ (fun v_ mem_ hR => ?_); obtain ⟨rfl, rfl⟩ := hR; refine ⟨rfl, ?_⟩; conv => whnf)
    | (refine c_heldPointS_nil.call ?_; conv => whnf)
    | (refine c_heldPointS_nil.quiet ?_; conv => whnf)
    | (refine draw_auto (by decide +kernel) ?_; conv => whnf)
    | (refine draw_asg (by decide +kernel) ?_; conv => whnf)
    | (refine draw_st (by decide +kernel) ?_; conv => whnf)
    | (refine draw_call (by decide +kernel) ?_; conv => whnf)
    | (refine enter_same (loop_n 12 ?_); conv => whnf)
    | (refine next_same ?_; conv => whnf)
    | (refine mapK_row (by assumption) ?_; conv => whnf)
    | (refine mapK_plain (Plain.of rfl) ?_; conv => whnf)
    | (refine mapK_lit ?_; conv => whnf)
    | (refine br_split (fun _ => ?_) (fun _ => ?_) <;> conv => whnf)
    | exact (rfl : (_ : Value) = _)
    | (simp only [*]; exact (rfl : (_ : Value) = _))
    | (simp [*]; done))

theorem c_law_GeodesicOf_no1 {a b c d : Int} (hp : (isPtF a b && isPtF c d) = false) : Pure Try.prog n_laws_FnExactGeodesicOf [pt a b, pt c d] (bb true) := by
  refine pure_of good fn_laws_FnExactGeodesicOf rfl rfl ?_
  conv => whnf
  all_goals (repeat' first
    | (refine br_true ?_ ?_; (focus (simp; done)); conv => whnf)
    | (refine br_false ?_ ?_; (focus (simp; done)); conv => whnf)
    | (refine br_false (decide_eq_false (by omega)) ?_; conv => whnf)
    | (refine draw_call (by decide +kernel) ?_; conv => whnf)
    | (refine StoreK.mk rfl ?_; conv => whnf)
    | exact join_same
    | exact (by assumption : (_ : Bool) = (_ : Bool))
    | (refine br_true (by assumption) ?_; conv => whnf)
    | (refine br_false (by assumption) ?_; conv => whnf)
    | (refine br_not ?_; conv => whnf)
    | (refine br_code ?_; conv => whnf)
    | (with_reducible refine br_and ?_; conv => whnf)
    | (with_reducible refine br_or ?_; conv => whnf)
    | (refine br_eq2 ?_; conv => whnf)
    | (refine c_laws_toPoint.call ?_; conv => whnf)
    | (refine c_laws_toPoint.quiet ?_; conv => whnf)
    | (refine CallOK.useR (c_spec_GeodesicOf_no1 (by first | assumption | exact Row.lit rfl rfl | omega)) [] rfl rfl rfl trivial (fun v_ mem_ hR => ?_); obtain ⟨rfl, rfl⟩ := hR; refine ⟨rfl, ?_⟩; conv => whnf)
    | (refine CallOK.useR (c_impl_GeodesicOf_no1 (by first | assumption | exact Row.lit rfl rfl | omega)) [] rfl rfl rfl trivial (fun v_ mem_ hR => ?_); obtain ⟨rfl, rfl⟩ := hR; refine ⟨rfl, ?_⟩; conv => whnf)
    | (refine CallOK.useR (c_laws_eqPointS (by first | assumption | exact Row.lit rfl rfl | omega) (by first | assumption | exact Row.lit rfl rfl | omega) (by first | assumption | exact Row.lit rfl rfl | omega)) [_, _] rfl rfl rfl ⟨⟨⟨_, rfl, .plain rfl (fun _ h_ => by first | exact h_ | cases h_) (by first | exact Plain.of rfl | exact Row.all (by assumption))⟩⟩, ⟨⟨_, rfl, .plain rfl (fun _ h_ => by first | exact h_ | cases h_) (by first | exact Plain.of rfl | exact Row.all (by assumption))⟩⟩, trivial⟩ (fun v_ mem_ hR => ?_); obtain ⟨rfl, rfl⟩ := hR; refine ⟨rfl, ?_⟩; conv => whnf)
    | (refine c_eqPointS_nil.call ?_; conv => whnf)
    | (refine c_eqPointS_nil.quiet ?_; conv => whnf)
    | (refine CallOK.useR c_eqPointS_empty [_, _] rfl rfl rfl ⟨⟨⟨_, rfl, .plain rfl (fun _ h_ => by first | exact h_ | cases h_) (by first | exact Plain.of rfl | exact Row.all (by assumption))⟩⟩, ⟨⟨_, rfl, .plain rfl (fun _ h_ => by first | exact h_ | cases h_) (by first | exact Plain.of rfl | exact Row.all (by assumption))⟩⟩, trivial⟩ (fun v_ mem_ hR => ?_); obtain ⟨rfl, rfl⟩ := hR; refine ⟨rfl, ?_⟩; conv => whnf)
    | (refine CallOK.useR (c_laws_markPointS (by first | assumption | exact Row.lit rfl rfl | omega) (by first | assumption | exact Row.lit rfl rfl | omega) (by first | assumption | exact Row.lit rfl rfl | omega)) [_] rfl rfl rfl ⟨⟨⟨_, rfl, .plain rfl (fun _ h_ => by first | exact h_ | cases h_) (by first | exact Plain.of rfl | exact Row.all (by assumption))⟩⟩, trivial⟩ (fun v_ mem_ hR => ?_); obtain ⟨sq_, hrow_, rfl, rfl⟩ := hR; refine ⟨rfl, ?_⟩; conv => whnf)
    | (refine c_markPointS_nil.call ?_; conv => whnf)
    | (refine c_markPointS_nil.quiet ?_; conv => whnf)
    | (refine CallOK.useR (c_laws_heldPointS (by first | assumption | exact Row.lit rfl rfl | omega) (by first | assumption | exact Row.lit rfl rfl | omega) (by first | assumption | exact Row.lit rfl rfl | omega)) [_] rfl rfl rfl ⟨⟨⟨_, rfl, .plain rfl (fun _ h_ => by first | exact h_ | cases h_) (by first | exact Plain.of rfl | exact Row.all (by assumption))⟩⟩, trivial⟩ (fun v_ mem_ hR => ?_); obtain ⟨rfl, rfl⟩ := hR; refine ⟨rfl, ?_⟩; conv => whnf)
    | (refine c_heldPointS_nil.call ?_; conv => whnf)
    | (refine c_heldPointS_nil.quiet ?_; conv => whnf)
    | (refine draw_auto (by decide +kernel) ?_; conv => whnf)
    | (refine draw_asg (by decide +kernel) ?_; conv => whnf)
    | (refine draw_st (by decide +kernel) ?_; conv => whnf)
    | (refine draw_call (by decide +kernel) ?_; conv => whnf)
    | (refine enter_same (loop_n 12 ?_); conv => whnf)
    | (refine next_same ?_; conv => whnf)
    | (refine mapK_row (by assumption) ?_; conv => whnf)
    | (refine mapK_plain (Plain.of rfl) ?_; conv => whnf)
    | (refine mapK_lit ?_; conv => whnf)
    | (refine br_split (fun _ => ?_) (fun _ => ?_) <;> conv => whnf)
    | exact (rfl : (_ : Value) = _)
    | (simp only [*]; exact (rfl : (_ : Value) = _))
    | (simp [*]; done))

theorem c_laws_FnExactGeodesicOf {a b c d : Int} : Pure Try.prog n_laws_FnExactGeodesicOf [pt a b, pt c d] (bb true) := by
  cases hp : (isPtF a b && isPtF c d)
  · exact c_law_GeodesicOf_no1 hp
  · cases hf : (isFracF a b && isFracF c d)
    · exact c_law_GeodesicOf_no2 hp hf
    · by_cases hn : a = c ∧ b = d
      · obtain ⟨rfl, rfl⟩ := hn
        exact c_law_GeodesicOf_same (by simpa using hp) (by simpa using hf)
      · cases hM : isPtF (movX a b c d) (movY a b c d)
        · exact c_law_GeodesicOf_no3 hp hf hn hM
        · exact c_law_GeodesicOf_ok hp hf hn hM

end Go.Proofs.Ytnjepaboecijcaa
end

section
/-
  Levels without bounds: a number of a primitive vector that changes by one at most from neighbour to neighbour. The plain law.
  Conditions: none.
-/
set_option linter.unusedVariables false
set_option linter.unusedSimpArgs false
namespace Go.Ev

structure FrU (a b : Int) : Prop where
  g : Int.gcd a b = 1
  b0 : 0 ≤ b
theorem FrOk.u {a b : Int} (h : FrOk a b) : FrU a b := ⟨prim_gcd h.pt h.prim, h.b0⟩
theorem bez_ex : ∀ (n : Nat) {a b : Int}, b.toNat ≤ n → 0 < b → Int.gcd a b = 1 → ∃ x y : Int, a * y - b * x = 1
  | 0, a, b, hn, hb, hg => by omega
  | n + 1, a, b, hn, hb, hg => by
    have hm1 := Int.emod_nonneg a (show b ≠ 0 by omega)
    have hm2 := Int.emod_lt_of_pos a hb
    have e := Int.mul_ediv_add_emod a b
    have hg2 : Int.gcd b (a % b) = 1 := by rw [Int.gcd_comm, gcd_emod']; exact hg
    by_cases hr : 0 < a % b
    · obtain ⟨x, y, h⟩ := bez_ex n (a := b) (b := a % b) (by omega) hr hg2
      refine ⟨-y - (a / b) * x, -x, ?_⟩
      generalize a % b = r at *
      generalize a / b = q at *
      subst e
      grind
    · have h0 : a % b = 0 := by omega
      rw [h0, Int.gcd_zero_right] at hg2
      obtain rfl : b = 1 := by omega
      exact ⟨-1, 0, by omega⟩
/-- The left parent. -/
theorem uL_ex {a b : Int} (h : FrU a b) (h2 : 2 ≤ b) : ∃ p : Int × Int, a * p.2 - b * p.1 = 1 ∧ 1 ≤ p.2 ∧ p.2 < b := by
  obtain ⟨x, y, e⟩ := bez_ex _ (Nat.le_refl _) (show 0 < b by omega) h.g
  have e2 := Int.mul_ediv_add_emod y b
  have m1 := Int.emod_nonneg y (show b ≠ 0 by omega)
  have m2 := Int.emod_lt_of_pos y (show 0 < b by omega)
  refine ⟨(x - a * (y / b), y % b), ?_, ?_, m2⟩
  · simp only
    generalize y % b = r at *
    generalize y / b = q at *
    subst e2
    grind
  · simp only
    rcases (by omega : y % b = 0 ∨ 1 ≤ y % b) with h0 | h0
    · exfalso
      rw [h0] at e2
      have : b ∣ 1 := by
        rw [← e, ← e2]
        refine ⟨a * (y / b) - x, ?_⟩
        grind
      have := Int.le_of_dvd (by omega) this
      omega
    · exact h0
open Classical in
noncomputable def uL (a b : Int) : Int × Int := if h : ∃ p : Int × Int, a * p.2 - b * p.1 = 1 ∧ 1 ≤ p.2 ∧ p.2 < b then h.choose else (0, 0)
theorem uL_is {a b : Int} (h : FrU a b) (h2 : 2 ≤ b) : a * (uL a b).2 - b * (uL a b).1 = 1 ∧ 1 ≤ (uL a b).2 ∧ (uL a b).2 < b := by
  unfold uL
  rw [dif_pos (uL_ex h h2)]
  exact (uL_ex h h2).choose_spec
theorem fr_det {a b x y : Int} (h : a * y - b * x = 1) (hy : 0 ≤ y) : FrU x y := by
  refine ⟨?_, hy⟩
  have h1 : (Int.gcd x y : Int) ∣ x := Int.gcd_dvd_left x y
  have h2 : (Int.gcd x y : Int) ∣ y := Int.gcd_dvd_right x y
  have h3 : (Int.gcd x y : Int) ∣ 1 := by
    rw [← h]
    exact Int.dvd_sub (Int.dvd_mul_of_dvd_right h2) (Int.dvd_mul_of_dvd_right h1)
  have := Int.le_of_dvd (by omega) h3
  have h4 : Int.gcd x y ≠ 0 := fun h0 => by
    rw [h0] at h3
    have := Int.zero_dvd.1 h3
    omega
  omega
theorem u_uniq {a b x y : Int} (h : FrU a b) (h0 : 2 ≤ b) (hd : a * y - b * x = 1) (h1 : 1 ≤ y) (h2 : y < b) : x = (uL a b).1 ∧ y = (uL a b).2 := by
  obtain ⟨h3, h4, h6⟩ := uL_is h h0
  generalize (uL a b).1 = L0 at *
  generalize (uL a b).2 = L1 at *
  have e1 : a * (y - L1) = b * (x - L0) := by rw [Int.mul_sub, Int.mul_sub]; omega
  have h5 : b ∣ y - L1 := by
    refine ⟨L1 * (x - L0) - L0 * (y - L1), ?_⟩
    have e3 : y - L1 = (y - L1) * (a * L1 - b * L0) := by rw [h3, Int.mul_one]
    have e4 : (y - L1) * (a * L1 - b * L0) = L1 * (a * (y - L1)) - b * (L0 * (y - L1)) := by grind
    have e5 : y - L1 = L1 * (a * (y - L1)) - b * (L0 * (y - L1)) := e3.trans e4
    rw [e1] at e5
    rw [Int.mul_sub]
    generalize y - L1 = D at *
    generalize x - L0 = E at *
    have e6 : L1 * (b * E) = b * (L1 * E) := by grind
    omega
  have ey : y = L1 := by
    obtain ⟨k, hk⟩ := h5
    rcases (by omega : k ≤ -1 ∨ k = 0 ∨ 1 ≤ k) with hk1 | hk1 | hk1
    · have : b * k ≤ b * (-1) := Int.mul_le_mul_of_nonneg_left hk1 (by omega)
      omega
    · subst hk1; omega
    · have : b * 1 ≤ b * k := Int.mul_le_mul_of_nonneg_left hk1 (by omega)
      omega
  subst ey
  have e2 : b * x = b * L0 := by omega
  exact ⟨Int.eq_of_mul_eq_mul_left (by omega) e2, rfl⟩

noncomputable def lamF : Nat → Int → Int → Int
  | 0, _, b => b
  | n + 1, a, b => if b < 2 then b else if b - (uL a b).2 < (uL a b).2 then lamF n (a - (uL a b).1) (b - (uL a b).2) + 1 else lamF n (uL a b).1 (uL a b).2 + 1
noncomputable def lam (a b : Int) : Int := lamF b.toNat a b
theorem uL_fr {a b : Int} (h : FrU a b) (h2 : 2 ≤ b) : FrU (uL a b).1 (uL a b).2 ∧ FrU (a - (uL a b).1) (b - (uL a b).2) := by
  obtain ⟨h3, h4, h6⟩ := uL_is h h2
  refine ⟨fr_det h3 (by omega), fr_det (a := -a) (b := -b) (x := a - (uL a b).1) (y := b - (uL a b).2) ?_ (by omega)⟩
  generalize (uL a b).1 = L0 at *
  generalize (uL a b).2 = L1 at *
  grind
theorem lamF_stab : ∀ (n m : Nat) {a b : Int}, FrU a b → b.toNat ≤ n → b.toNat ≤ m → lamF n a b = lamF m a b
  | 0, 0, a, b, h, h1, h2 => rfl
  | 0, m + 1, a, b, h, h1, h2 => by
    have := h.b0
    rw [lamF, lamF, if_pos (by omega)]
  | n + 1, 0, a, b, h, h1, h2 => by
    have := h.b0
    rw [lamF, lamF, if_pos (by omega)]
  | n + 1, m + 1, a, b, h, h1, h2 => by
    rw [lamF, lamF]
    split
    · rfl
    · rename_i hb
      have hd := uL_is h (by omega)
      have hf := uL_fr h (by omega)
      split
      · rw [lamF_stab n m hf.2 (by omega) (by omega)]
      · rw [lamF_stab n m hf.1 (by omega) (by omega)]
theorem lam_small {a b : Int} (h : FrU a b) (hb : b < 2) : lam a b = b := by
  have := h.b0
  unfold lam
  rcases (by omega : b = 0 ∨ b = 1) with rfl | rfl
  · rfl
  · show lamF 1 a 1 = 1
    rw [lamF, if_pos (by omega)]
theorem lam_step {a b : Int} (h : FrU a b) (h2 : 2 ≤ b) : lam a b = (if b - (uL a b).2 < (uL a b).2 then lam (a - (uL a b).1) (b - (uL a b).2) else lam (uL a b).1 (uL a b).2) + 1 := by
  have hd := uL_is h h2
  have hf := uL_fr h h2
  unfold lam
  rw [show b.toNat = (b.toNat - 1) + 1 by omega, lamF, if_neg (by omega)]
  split
  · rw [lamF_stab _ _ hf.2 (show (b - (uL a b).2).toNat ≤ b.toNat - 1 by omega) (Nat.le_refl _)]
  · rw [lamF_stab _ _ hf.1 (show (uL a b).2.toNat ≤ b.toNat - 1 by omega) (Nat.le_refl _)]
theorem lam_nn : ∀ (n : Nat) {a b : Int}, FrU a b → b.toNat ≤ n → 0 ≤ lam a b ∧ (1 ≤ b → 1 ≤ lam a b)
  | 0, a, b, h, hn => by
    have := h.b0
    rw [lam_small h (by omega)]; omega
  | n + 1, a, b, h, hn => by
    have h0 := h.b0
    rcases (by omega : b < 2 ∨ 2 ≤ b) with hb | hb
    · rw [lam_small h hb]; omega
    · have hd := uL_is h hb
      have hf := uL_fr h hb
      have h1 := lam_nn n hf.1 (by omega)
      have h2 := lam_nn n hf.2 (by omega)
      rw [lam_step h hb]
      split <;> omega
/-- The level of a fraction of the program. -/
theorem lev_lam : ∀ (n : Nat) {a b : Int}, FrOk a b → b.toNat ≤ n → levL a b = lam a b
  | 0, a, b, h, hn => by
    have := h.b0
    rw [lev_small h (by omega), lam_small h.u (by omega)]
  | n + 1, a, b, h, hn => by
    have h0 := h.b0
    rcases (by omega : b < 2 ∨ 2 ≤ b) with hb | hb
    · rw [lev_small h hb, lam_small h.u hb]
    · have hp := h.par hb
      have hd := par_det hp
      obtain ⟨e1, e2⟩ := u_uniq h.u hb hd.1 hd.2.2.2.1.1 hd.2.2.2.1.2
      rw [lev_step hp, lam_step h.u hb, ← e1, ← e2, show b - parL1 a b = parR1 a b by omega, show a - parL0 a b = parR0 a b by omega, lev_lam n (fr_parR hp) (by omega), lev_lam n (fr_parL hp) (by omega)]

structure AdU (x y u v : Int) : Prop where
  one : u * y - v * x = 1
  y1 : 1 ≤ y
  v1 : 1 ≤ v
theorem AdU.l {x y u v : Int} (h : AdU x y u v) : FrU x y := fr_det h.one (by have := h.y1; omega)
theorem AdU.r {x y u v : Int} (h : AdU x y u v) : FrU u v := fr_det (a := -x) (b := -y) (by have := h.one; grind) (by have := h.v1; omega)
theorem AdU.right {x y u v : Int} (h : AdU x y u v) (hv : y < v) : AdU x y (u - x) (v - y) ∧ lam u v = (if v - y < y then lam (u - x) (v - y) else lam x y) + 1 := by
  have h2 : 2 ≤ v := by have := h.y1; omega
  obtain ⟨e1, e2⟩ := u_uniq h.r h2 h.one h.y1 hv
  have hs := lam_step h.r h2
  rw [← e1, ← e2] at hs
  refine ⟨⟨?_, h.y1, by omega⟩, hs⟩
  have := h.one
  grind
theorem AdU.left {x y u v : Int} (h : AdU x y u v) (hv : v < y) : AdU (x - u) (y - v) u v ∧ lam x y = (if v < y - v then lam u v else lam (x - u) (y - v)) + 1 := by
  have h2 : 2 ≤ y := by have := h.v1; omega
  have hone := h.one; have hv1 := h.v1
  have e0 : x * (y - v) - y * (x - u) = 1 := by grind
  obtain ⟨e1, e2⟩ := u_uniq h.l h2 e0 (by omega) (by omega)
  have hs := lam_step h.l h2
  rw [← e1, ← e2, show y - (y - v) = v by omega, show x - (x - u) = u by omega] at hs
  exact ⟨⟨by grind, by omega, hv1⟩, hs⟩
theorem AdU.same {x y u v : Int} (h : AdU x y u v) (hv : y = v) : y = 1 := by
  subst hv
  have h1 := h.one; have h2 := h.y1
  have e : y * (u - x) = 1 := by rw [Int.mul_sub, Int.mul_comm y u]; exact h1
  have : y ∣ 1 := ⟨_, e.symm⟩
  have := Int.le_of_dvd (by omega) this
  omega
theorem AdU.mono : ∀ (n : Nat) {x y u v : Int}, AdU x y u v → y.toNat + v.toNat ≤ n → (y ≤ v → lam x y ≤ lam u v) ∧ (v ≤ y → lam u v ≤ lam x y)
  | 0, x, y, u, v, h, hn => by have := h.y1; omega
  | n + 1, x, y, u, v, h, hn => by
    have hy := h.y1; have hv := h.v1
    rcases (by omega : y = v ∨ y < v ∨ v < y) with he | he | he
    · have := h.same he
      rw [lam_small h.l (by omega), lam_small h.r (by omega)]; omega
    · obtain ⟨h1, e1⟩ := h.right he
      refine ⟨fun _ => ?_, fun hh => by omega⟩
      rw [e1]
      split
      · rename_i hlt
        obtain ⟨h2, e2⟩ := h1.left hlt
        rw [e2]
        split
        · omega
        · rename_i hge
          have := (AdU.mono n h2 (by have := h2.y1; omega)).1 (by omega)
          omega
      · omega
    · obtain ⟨h1, e1⟩ := h.left he
      refine ⟨fun hh => by omega, fun _ => ?_⟩
      rw [e1]
      split
      · omega
      · rename_i hge
        rcases (by omega : y - v = v ∨ y - v < v) with h3 | h3
        · have := h1.same h3
          have hb := lam_nn _ h1.l (Nat.le_refl _)
          rw [lam_small h.r (by omega)]; omega
        · obtain ⟨h2, e2⟩ := h1.right h3
          rw [e2]
          split
          · rename_i hlt
            have := (AdU.mono n h2 (by have := h2.v1; omega)).2 (by omega)
            omega
          · omega
theorem AdU.diff {x y u v : Int} (h : AdU x y u v) : lam u v ≤ lam x y + 1 ∧ lam x y ≤ lam u v + 1 := by
  have hy := h.y1; have hv := h.v1
  have hm := h.mono _ (Nat.le_refl _)
  rcases (by omega : y = v ∨ y < v ∨ v < y) with he | he | he
  · have := hm.1 (by omega); have := hm.2 (by omega); omega
  · obtain ⟨h1, e1⟩ := h.right he
    have := hm.1 (by omega)
    have h3 := (h1.mono _ (Nat.le_refl _)).2
    refine ⟨?_, by omega⟩
    rw [e1]
    split
    · have := h3 (by omega); omega
    · omega
  · obtain ⟨h1, e1⟩ := h.left he
    have := hm.2 (by omega)
    have h3 := (h1.mono _ (Nat.le_refl _)).1
    refine ⟨by omega, ?_⟩
    rw [e1]
    split
    · omega
    · have := h3 (by omega); omega

/-- The level of a vector, whatever its sign. -/
noncomputable def Lam (u : Int × Int) : Int := if u.2 < 0 then lam (-u.1) (-u.2) else lam u.1 u.2
def det2 (u v : Int × Int) : Int := u.1 * v.2 - u.2 * v.1
def Near (u v : Int × Int) : Prop := det2 u v = 1 ∨ det2 u v = -1
theorem lam_zero (a : Int) : lam a 0 = 0 := rfl
theorem lam_b1 (a : Int) : lam a 1 = 1 := by
  show lamF 1 a 1 = 1
  rw [lamF, if_pos (by omega)]
theorem lam_near {a b c d : Int} (hb : 0 ≤ b) (hd : 0 ≤ d) (h : a * d - b * c = 1 ∨ a * d - b * c = -1) : lam c d ≤ lam a b + 1 := by
  rcases (by omega : b = 0 ∨ 1 ≤ b) with rfl | hb1
  · rw [Int.zero_mul] at h
    have hd1 : d = 1 := by
      have h2 : d ∣ 1 := by
        rcases h with h | h
        · exact ⟨a, by rw [Int.mul_comm]; omega⟩
        · exact ⟨-a, by rw [Int.mul_neg, Int.mul_comm]; omega⟩
      have := Int.le_of_dvd (by omega) h2
      rcases (by omega : d = 0 ∨ d = 1) with h0 | h0
      · subst h0; simp at h
      · exact h0
    subst hd1
    rw [lam_zero, lam_b1]
    omega
  · rcases (by omega : d = 0 ∨ 1 ≤ d) with rfl | hd1
    · rw [lam_zero]
      have hg : FrU a b := by
        rw [Int.mul_zero] at h
        rcases h with h | h
        · exact fr_det (a := -c) (b := 0) (y := b) (x := a) (by rw [Int.zero_mul, Int.neg_mul, Int.mul_comm]; omega) hb
        · exact fr_det (a := c) (b := 0) (y := b) (x := a) (by rw [Int.zero_mul, Int.mul_comm]; omega) hb
      have := (lam_nn _ hg (Nat.le_refl _)).1
      omega
    · rcases h with h | h
      · exact (AdU.mk (x := c) (y := d) (u := a) (v := b) h hd1 hb1).diff.2
      · exact (AdU.mk (x := a) (y := b) (u := c) (v := d) (by grind) hb1 hd1).diff.1
theorem Lam_near {u v : Int × Int} (h : Near u v) : Lam v ≤ Lam u + 1 := by
  obtain ⟨a, b⟩ := u
  obtain ⟨c, d⟩ := v
  unfold Near det2 at h
  simp only at h
  unfold Lam
  simp only
  split <;> split
  · exact lam_near (by omega) (by omega) (h.elim (fun h => .inl (by grind)) fun h => .inr (by grind))
  · exact lam_near (by omega) (by omega) (h.elim (fun h => .inr (by grind)) fun h => .inl (by grind))
  · exact lam_near (by omega) (by omega) (h.elim (fun h => .inr (by grind)) fun h => .inl (by grind))
  · exact lam_near (by omega) (by omega) h
theorem Lam_neg (u : Int × Int) : Lam (-u.1, -u.2) = Lam u := by
  obtain ⟨a, b⟩ := u
  unfold Lam
  simp only [Int.neg_neg]
  rcases (by omega : b = 0 ∨ b < 0 ∨ 0 < b) with h | h | h
  · subst h; rfl
  · rw [if_neg (by omega), if_pos h]
  · rw [if_pos (by omega), if_neg (by omega)]

/-! ### Chains -/
theorem gnx_near {x : Int × Int} (h : FrOk x.1 x.2) (hp : x.2 > 0) : Near x (gnx x) := by
  unfold gnx
  split
  · have hd := par_det (h.par (by omega))
    split
    · refine .inr ?_
      have := hd.2.1
      unfold det2; simp only
      rw [Int.mul_comm x.1, Int.mul_comm x.2]; omega
    · exact .inl hd.1
  · refine .inr ?_
    unfold det2; simp only
    omega
theorem lev_gnx {x : Int × Int} (h : FrOk x.1 x.2) (hp : x.2 > 0) : levL x.1 x.2 = levL (gnx x).1 (gnx x).2 + 1 := by
  unfold gnx
  split
  · rename_i h1
    have hp2 := h.par (show 2 ≤ x.2 by omega)
    have hd := par_det hp2
    rw [lev_step hp2]
    have hA : Adj (parL0 x.1 x.2) (parL1 x.1 x.2) (parR0 x.1 x.2) (parR1 x.1 x.2) := by
      refine ⟨?_, fr_parL hp2, fr_parR hp2, hd.2.2.2.1.1, hd.2.2.1.1⟩
      have e1 := hd.1; have e2 := hd.2.1; have e3 := hd.2.2.2.2.1; have e4 := hd.2.2.2.2.2
      generalize parL0 x.1 x.2 = L0 at *
      generalize parL1 x.1 x.2 = L1 at *
      generalize parR0 x.1 x.2 = R0 at *
      generalize parR1 x.1 x.2 = R1 at *
      subst e3 e4
      grind
    have hm := hA.mono _ (Nat.le_refl _)
    split <;> split <;> simp only <;> first | rfl | (rename_i g1 g2; first | (have := hm.1 (by omega); omega) | (have := hm.2 (by omega); omega))
  · rename_i h1
    have : x.2 = 1 := by omega
    simp only
    rw [lev_small h (by omega), lev_small fr_one (by omega)]; omega
/-- A linear map of determinant 1 or -1. -/
structure Uni (p q r s : Int) : Prop where
  d : p * s - q * r = 1 ∨ p * s - q * r = -1
def mul2 (p q r s : Int) (z : Int × Int) : Int × Int := (p * z.1 + q * z.2, r * z.1 + s * z.2)
theorem Uni.near {p q r s : Int} (h : Uni p q r s) {u v : Int × Int} (hn : Near u v) : Near (mul2 p q r s u) (mul2 p q r s v) := by
  have e : det2 (mul2 p q r s u) (mul2 p q r s v) = (p * s - q * r) * det2 u v := by
    unfold det2 mul2; simp only; grind
  unfold Near
  rw [e]
  rcases h.d with h | h <;> rcases hn with g | g <;> rw [h, g] <;> decide
theorem Near.symm {u v : Int × Int} (h : Near u v) : Near v u := by
  unfold Near det2 at *
  exact h.elim (fun h => .inr (by grind)) fun h => .inl (by grind)
theorem chain_lam {p q r s : Int} (hU : Uni p q r s) : ∀ (n : Nat) {x : Int × Int}, FrOk x.1 x.2 → x.2.toNat ≤ n → (x.2 = 0 → x.1 = 1) →
    Lam (mul2 p q r s (1, 0)) ≤ Lam (mul2 p q r s x) + levL x.1 x.2 ∧ Lam (mul2 p q r s x) ≤ Lam (mul2 p q r s (1, 0)) + levL x.1 x.2
  | n, x, h, hn, h1 => by
    have h0 := h.b0
    by_cases hp : x.2 > 0
    · match n, hn with
      | 0, hn => omega
      | n + 1, hn =>
        have hg := gnx_ok h hp
        have hgb := hg.1.b0
        have h2 : (gnx x).2 = 0 → (gnx x).1 = 1 := by
          unfold gnx
          split
          · rename_i hy
            have hd := par_det (h.par (by omega))
            split <;> simp only <;> omega
          · intro _; rfl
        have ih := chain_lam hU n hg.1 (by omega) h2
        have hN := hU.near (gnx_near h hp)
        have a1 := Lam_near hN
        have a2 := Lam_near hN.symm
        rw [lev_gnx h hp]
        omega
    · have hx2 : x.2 = 0 := by omega
      have e : x = (1, 0) := by
        obtain ⟨x1, x2⟩ := x
        simp only at h1 hx2
        rw [h1 hx2, hx2]
      rw [e]
      have : levL 1 0 = 0 := lev_small fr_one (by omega)
      simp only [this]
      omega
end Go.Ev
end

section
/-
  Geodesics: as many steps as the distance, each to a neighbour; distances are symmetric and kept by unimodular matrices. The plain law.
  Conditions: none.
-/
set_option linter.unusedVariables false
set_option linter.unusedSimpArgs false
namespace Go.Ev

abbrev V2 := Int × Int
def ngv (z : V2) : V2 := (-z.1, -z.2)
structure Lin (f : V2 → V2) : Prop where
  ex : ∃ p q r s, Uni p q r s ∧ ∀ z, f z = mul2 p q r s z
theorem Lin.mul {p q r s : Int} (h : Uni p q r s) : Lin (mul2 p q r s) := ⟨p, q, r, s, h, fun _ => rfl⟩
theorem Lin.id : Lin (fun z => z) := ⟨1, 0, 0, 1, ⟨.inl (by decide)⟩, fun z => by unfold mul2; simp⟩
theorem Lin.comp {f g : V2 → V2} (hf : Lin f) (hg : Lin g) : Lin (fun z => f (g z)) := by
  obtain ⟨p, q, r, s, hU, h1⟩ := hf.ex
  obtain ⟨p', q', r', s', hU', h2⟩ := hg.ex
  refine ⟨p * p' + q * r', p * q' + q * s', r * p' + s * r', r * q' + s * s', ⟨?_⟩, fun z => ?_⟩
  · have e : (p * p' + q * r') * (r * q' + s * s') - (p * q' + q * s') * (r * p' + s * r') = (p * s - q * r) * (p' * s' - q' * r') := by grind
    rw [e]
    rcases hU.d with h | h <;> rcases hU'.d with g | g <;> rw [h, g] <;> decide
  · rw [h2, h1]; unfold mul2; simp only; ext <;> simp only <;> grind
theorem Lin.neg {f : V2 → V2} (hf : Lin f) (z : V2) : f (ngv z) = ngv (f z) := by
  obtain ⟨p, q, r, s, hU, h1⟩ := hf.ex
  rw [h1, h1]; unfold ngv mul2; simp only; ext <;> simp only <;> grind
/-- Equal but for the sign. -/
def Eqs (u v : V2) : Prop := u = v ∨ u = ngv v
theorem ngv_ngv (z : V2) : ngv (ngv z) = z := by unfold ngv; simp
theorem Eqs.symm {u v : V2} (h : Eqs u v) : Eqs v u := by
  rcases h with rfl | rfl
  · exact .inl rfl
  · exact .inr (ngv_ngv _).symm
theorem Eqs.trans {u v w : V2} (h : Eqs u v) (k : Eqs v w) : Eqs u w := by
  rcases h with rfl | rfl
  · exact k
  · rcases k with rfl | rfl
    · exact .inr rfl
    · rw [ngv_ngv]; exact .inl rfl
theorem Eqs.map {f : V2 → V2} (hf : Lin f) {u v : V2} (h : Eqs u v) : Eqs (f u) (f v) := by
  rcases h with rfl | rfl
  · exact .inl rfl
  · exact .inr (hf.neg _)
theorem Eqs.lam {u v : V2} (h : Eqs u v) : Lam u = Lam v := by
  rcases h with rfl | rfl
  · rfl
  · exact Lam_neg v
theorem Lam_one : Lam (1, 0) = 0 := rfl

/-- Vectors led to the place where a is 1, 0, and back. -/
def tTo (a b : Int) : V2 → V2 := mul2 (mateY a b) (-mateX a b) (-b) a
def tFr (a b : Int) : V2 → V2 := mul2 a (mateX a b) b (mateY a b)
section
variable {a b c d : Int}
theorem fr_mate (h : isFracF a b = true) : a * mateY a b - b * mateX a b = 1 := by
  obtain ⟨p1, q1, _, _⟩ := frac_iff h
  exact mate_det p1 q1
theorem tTo_lin (h : isFracF a b = true) : Lin (tTo a b) := Lin.mul ⟨.inl (by have := fr_mate h; grind)⟩
theorem tFr_lin (h : isFracF a b = true) : Lin (tFr a b) := Lin.mul ⟨.inl (by have := fr_mate h; grind)⟩
theorem tTo_self (h : isFracF a b = true) : tTo a b (a, b) = (1, 0) := by
  have := fr_mate h
  unfold tTo mul2; simp only; ext <;> simp only <;> grind
theorem tFr_one : tFr a b (1, 0) = (a, b) := by unfold tFr mul2; simp
theorem tTo_mov (h : MovOk a b c d) : Eqs (tTo a b (c, d)) (movX a b c d, movY a b c d) := by
  obtain ⟨e1, e2, _⟩ := h.all
  unfold tTo mul2
  rcases mov_cases h with ⟨h1, h2, _⟩ | ⟨h1, h2, _⟩
  · left
    rw [h1, h2, e1, e2]
    simp only; ext <;> simp only <;> grind
  · right
    rw [h1, h2, e1, e2]
    unfold ngv
    simp only; ext <;> simp only <;> grind
theorem tFr_mov (h : MovOk a b c d) : Eqs (tFr a b (movX a b c d, movY a b c d)) (c, d) := by
  obtain ⟨e1, e2, _⟩ := h.all
  have hm := fr_mate h.fa
  unfold tFr mul2
  rcases mov_cases h with ⟨h1, h2, _⟩ | ⟨h1, h2, _⟩
  · left
    rw [h1, h2, e1, e2]
    generalize mateX a b = m0 at *
    generalize mateY a b = m1 at *
    have k1 : a * (c * m1 - d * m0) + m0 * (a * d - b * c) = c * (a * m1 - b * m0) := by grind
    have k2 : b * (c * m1 - d * m0) + m1 * (a * d - b * c) = d * (a * m1 - b * m0) := by grind
    rw [hm, Int.mul_one] at k1 k2
    simp only; rw [k1, k2]
  · right
    rw [h1, h2, e1, e2]
    generalize mateX a b = m0 at *
    generalize mateY a b = m1 at *
    have k1 : a * (c * m1 - d * m0) + m0 * (a * d - b * c) = c * (a * m1 - b * m0) := by grind
    have k2 : b * (c * m1 - d * m0) + m1 * (a * d - b * c) = d * (a * m1 - b * m0) := by grind
    rw [hm, Int.mul_one] at k1 k2
    unfold ngv
    simp only; ext <;> simp only <;> grind
abbrev ptM (a b c d : Int) : Bool := isPtF (movX a b c d) (movY a b c d)
theorem lev_Lam (h : MovOk a b c d) (hp : ptM a b c d = true) : Lam (movX a b c d, movY a b c d) = levL (movX a b c d) (movY a b c d) := by
  have hf := mov_fr h hp
  have := hf.b0
  rw [lev_lam _ hf (Nat.le_refl _)]
  unfold Lam
  simp only
  rw [if_neg (by omega)]
theorem mov_zero (h : MovOk a b c d) (hp : ptM a b c d = true) : movY a b c d = 0 → movX a b c d = 1 := fun h0 => by
  by_cases hne : a = c ∧ b = d
  · obtain ⟨rfl, rfl⟩ := hne
    exact (mov_self h.fa).1
  · have := mov_pos h hne; omega
/-- A linear map that leads a to c and b to d, but for signs. -/
theorem lev_map {h : V2 → V2} (hl : Lin h) {a b c d e f g i : Int} (h1 : MovOk a b c d) (p1 : ptM a b c d = true) (h2 : MovOk e f g i) (p2 : ptM e f g i = true) (ha : Eqs (h (a, b)) (e, f)) (hb : Eqs (h (c, d)) (g, i)) :
    levL (movX e f g i) (movY e f g i) ≤ levL (movX a b c d) (movY a b c d) := by
  have hL := ((tTo_lin h2.fa).comp (hl.comp (tFr_lin h1.fa)))
  obtain ⟨p, q, r, s, hU, hz⟩ := hL.ex
  have hc := chain_lam hU _ (x := (movX a b c d, movY a b c d)) (mov_fr h1 p1) (Nat.le_refl _) (mov_zero h1 p1)
  rw [← hz, ← hz] at hc
  have e1 : Lam (tTo e f (h (tFr a b (1, 0)))) = 0 := by
    rw [tFr_one, (Eqs.map (tTo_lin h2.fa) ha).lam, tTo_self h2.fa]; rfl
  have e2 : Lam (tTo e f (h (tFr a b (movX a b c d, movY a b c d)))) = levL (movX e f g i) (movY e f g i) := by
    rw [← lev_Lam h2 p2]
    exact ((Eqs.map (tTo_lin h2.fa) ((Eqs.map hl (tFr_mov h1)).trans hb)).trans (tTo_mov h2)).lam
  rw [e1, e2] at hc
  simp only at hc
  omega
/-- The other way round. -/
theorem lev_sym (h1 : MovOk a b c d) (p1 : ptM a b c d = true) (h2 : MovOk c d a b) (p2 : ptM c d a b = true) : levL (movX c d a b) (movY c d a b) ≤ levL (movX a b c d) (movY a b c d) := by
  have hL := ((tTo_lin h2.fa).comp (tFr_lin h1.fa))
  obtain ⟨p, q, r, s, hU, hz⟩ := hL.ex
  have hc := chain_lam hU _ (x := (movX a b c d, movY a b c d)) (mov_fr h1 p1) (Nat.le_refl _) (mov_zero h1 p1)
  rw [← hz, ← hz] at hc
  have e1 : Lam (tTo c d (tFr a b (1, 0))) = levL (movX c d a b) (movY c d a b) := by
    rw [tFr_one, ← lev_Lam h2 p2]; exact (tTo_mov h2).lam
  have e2 : Lam (tTo c d (tFr a b (movX a b c d, movY a b c d))) = 0 := by
    rw [(Eqs.map (tTo_lin h2.fa) (tFr_mov h1)).lam, tTo_self h2.fa]; rfl
  rw [e1, e2] at hc
  simp only at hc
  omega
theorem dist_sym (h1 : MovOk a b c d) (p1 : ptM a b c d = true) (p2 : ptM c d a b = true) : levL (movX c d a b) (movY c d a b) = levL (movX a b c d) (movY a b c d) := by
  have h2 : MovOk c d a b := ⟨h1.fc, h1.fa⟩
  have := lev_sym h1 p1 h2 p2
  have := lev_sym h2 p2 h1 p1
  omega
/-- What the program's matrix makes of a fraction. -/
def tm0 (a b : Int) : Int := turnX (apF 2 1 a b) (apF 1 1 a b)
def tm1 (a b : Int) : Int := turnY (apF 2 1 a b) (apF 1 1 a b)
theorem uni_m : Uni 2 1 1 1 := ⟨.inl (by decide)⟩
theorem uni_n : Uni 1 (-1) (-1) 2 := ⟨.inl (by decide)⟩
theorem turn_eqs {x y : Int} (hx : -9000000 ≤ x ∧ x ≤ 9000000) (hy : -9000000 ≤ y ∧ y ≤ 9000000) : Eqs (x, y) (turnX x y, turnY x y) := by
  unfold turnX turnY
  cases turnF x y
  · exact .inl rfl
  · right
    unfold ngv
    simp only [selF]
    rw [w64_in (by omega) (by omega), w64_in (by omega) (by omega)]
    ext <;> simp only <;> omega
theorem tm_eqs (h : isPtF a b = true) : Eqs (mul2 2 1 1 1 (a, b)) (tm0 a b, tm1 a b) := by
  have hb := isPtF_iff.1 h
  have e1 : apF 2 1 a b = 2 * a + 1 * b := by unfold apF; rw [w64_in (n := 2 * a) (by omega) (by omega), w64_in (n := 1 * b) (by omega) (by omega), w64_in (by omega) (by omega)]
  have e2 : apF 1 1 a b = 1 * a + 1 * b := by unfold apF; rw [w64_in (n := 1 * a) (by omega) (by omega), w64_in (n := 1 * b) (by omega) (by omega), w64_in (by omega) (by omega)]
  unfold tm0 tm1
  rw [e1, e2]
  exact turn_eqs (by omega) (by omega)
theorem tm_back (h : isPtF a b = true) : Eqs (mul2 1 (-1) (-1) 2 (tm0 a b, tm1 a b)) (a, b) := by
  have h1 := (Eqs.map (Lin.mul uni_n) (tm_eqs h)).symm
  refine h1.trans (.inl ?_)
  unfold mul2; simp only; ext <;> simp only <;> omega
theorem dist_m (h1 : MovOk a b c d) (p1 : ptM a b c d = true) (h2 : MovOk (tm0 a b) (tm1 a b) (tm0 c d) (tm1 c d)) (p2 : ptM (tm0 a b) (tm1 a b) (tm0 c d) (tm1 c d) = true) :
    levL (movX (tm0 a b) (tm1 a b) (tm0 c d) (tm1 c d)) (movY (tm0 a b) (tm1 a b) (tm0 c d) (tm1 c d)) = levL (movX a b c d) (movY a b c d) := by
  have q1 := (frac_iff h1.fa).1
  have q2 := (frac_iff h1.fc).1
  have := lev_map (Lin.mul uni_m) h1 p1 h2 p2 (tm_eqs q1) (tm_eqs q2)
  have := lev_map (Lin.mul uni_n) h2 p2 h1 p1 (tm_back q1) (tm_back q2)
  omega

/-! ### Steps -/
theorem lev_one (h : MovOk a b c d) (hp : ptM a b c d = true) (hne : ¬ (a = c ∧ b = d)) : decide (sizeF (detF a b c d) = 1) = decide (levL (movX a b c d) (movY a b c d) = 1) := by
  have h1 := mov_pos h hne
  have hf := mov_fr h hp
  have hs : sizeF (detF a b c d) = movY a b c d := by
    have hd := det_pt (frac_iff h.fa).1 (frac_iff h.fc).1
    rw [sizeF_abs (by omega) (by omega)]
    rcases mov_cases h with ⟨_, e, g⟩ | ⟨_, e, g⟩ <;> omega
  rw [hs]
  rcases (by omega : movY a b c d = 1 ∨ 2 ≤ movY a b c d) with h2 | h2
  · rw [lev_small hf (by omega), h2]
  · have hp2 := hf.par h2
    have hd := par_det hp2
    rw [lev_step hp2]
    have k1 := (lam_nn _ (fr_parR hp2).u (Nat.le_refl _)).2 hd.2.2.1.1
    have k2 := (lam_nn _ (fr_parL hp2).u (Nat.le_refl _)).2 hd.2.2.2.1.1
    rw [← lev_lam _ (fr_parR hp2) (Nat.le_refl _)] at k1
    rw [← lev_lam _ (fr_parL hp2) (Nat.le_refl _)] at k2
    rw [decide_eq_false (by omega), decide_eq_false (by split <;> omega)]
theorem chn_lev : ∀ (n : Nat) {x : Int × Int}, FrOk x.1 x.2 → x.2.toNat ≤ n → ((chn x).length : Int) = levL x.1 x.2 + 1
  | n, x, h, hn => by
    have h0 := h.b0
    by_cases hp : x.2 > 0
    · match n, hn with
      | 0, hn => omega
      | n + 1, hn =>
        have hg := gnx_ok h hp
        have := hg.1.b0
        have ih := chn_lev n hg.1 (by omega)
        rw [chn_pos h hp, lev_gnx h hp, List.length_cons]
        omega
    · rw [chn_zero h hp, lev_small h (by omega)]
      simp; omega
theorem geo_len (h : MovOk a b c d) (hp : ptM a b c d = true) : ((geoL a b c d).length : Int) = levL (movX a b c d) (movY a b c d) + 1 := by
  unfold geoL
  rw [List.length_map, List.length_reverse]
  exact chn_lev _ (mov_fr h hp) (Nat.le_refl _)
/-- Neighbours along a chain. -/
theorem chn_near : ∀ (n : Nat) {x : Int × Int}, FrOk x.1 x.2 → x.2.toNat ≤ n → ∀ i, i + 1 < (chn x).length → Near ((chn x).getD i (0, 0)) ((chn x).getD (i + 1) (0, 0))
  | n, x, h, hn, i, hi => by
    by_cases hp : x.2 > 0
    · match n, hn with
      | 0, hn => omega
      | n + 1, hn =>
        have hg := gnx_ok h hp
        have hgb := hg.1.b0
        have hd : ∃ t, chn (gnx x) = gnx x :: t := by
          by_cases hq : (gnx x).2 > 0
          · exact ⟨_, chn_pos hg.1 hq⟩
          · exact ⟨[], chn_zero hg.1 hq⟩
        have ih := chn_near n hg.1 (by omega)
        rw [chn_pos h hp] at hi ⊢
        obtain ⟨t, ht⟩ := hd
        cases i with
        | zero =>
          rw [ht]
          exact gnx_near h hp
        | succ i =>
          have := ih i (by simpa using hi)
          simpa using this
    · rw [chn_zero h hp] at hi
      simp at hi
theorem chn_fr : ∀ (n : Nat) {x : Int × Int}, FrOk x.1 x.2 → x.2.toNat ≤ n → ∀ z ∈ chn x, FrOk z.1 z.2
  | n, x, h, hn, z, hz => by
    by_cases hp : x.2 > 0
    · match n, hn with
      | 0, hn => have := h.b0; omega
      | n + 1, hn =>
        have hg := gnx_ok h hp
        have hgb := hg.1.b0
        rw [chn_pos h hp] at hz
        rcases List.mem_cons.1 hz with rfl | hz
        · exact h
        · exact chn_fr n hg.1 (by omega) z hz
    · rw [chn_zero h hp] at hz
      simp at hz; subst hz; exact h
theorem gbk_eqs {z : Int × Int} (hb : BkOk a b z) : Eqs (tFr a b z) (gbk a b z) := by
  obtain ⟨e1, e2⟩ := hb.val
  obtain ⟨h1, h2⟩ := hb
  have : tFr a b z = (gbX a b z, gbY a b z) := by rw [e1, e2]; rfl
  rw [this]
  unfold gbk
  exact turn_eqs (by omega) (by omega)
theorem gbk_frac (h : isFracF a b = true) {z : Int × Int} (hb : BkOk a b z) (hz : FrOk z.1 z.2) : isFracF (gbk a b z).1 (gbk a b z).2 = true := by
  have hpt := hb.pt
  have hq := isPtF_iff.1 hpt
  obtain ⟨e1, e2⟩ := hb.val
  have hm := fr_mate h
  have hg : Int.gcd (gbX a b z) (gbY a b z) = 1 := by
    rw [e1, e2]
    have hz1 := prim_gcd hz.pt hz.prim
    generalize mateX a b = m0 at *
    generalize mateY a b = m1 at *
    have g1 := Int.gcd_dvd_left (a * z.1 + m0 * z.2) (b * z.1 + m1 * z.2)
    have g2 := Int.gcd_dvd_right (a * z.1 + m0 * z.2) (b * z.1 + m1 * z.2)
    have i1 : ((Int.gcd (a * z.1 + m0 * z.2) (b * z.1 + m1 * z.2) : Nat) : Int) ∣ z.1 := by
      have : z.1 = m1 * (a * z.1 + m0 * z.2) - m0 * (b * z.1 + m1 * z.2) := by
        have : m1 * (a * z.1 + m0 * z.2) - m0 * (b * z.1 + m1 * z.2) = z.1 * (a * m1 - b * m0) := by grind
        rw [this, hm, Int.mul_one]
      have k := Int.dvd_sub (Int.dvd_mul_of_dvd_right (b := m1) g1) (Int.dvd_mul_of_dvd_right (b := m0) g2)
      rw [← this] at k
      exact k
    have i2 : ((Int.gcd (a * z.1 + m0 * z.2) (b * z.1 + m1 * z.2) : Nat) : Int) ∣ z.2 := by
      have : z.2 = a * (b * z.1 + m1 * z.2) - b * (a * z.1 + m0 * z.2) := by
        have : a * (b * z.1 + m1 * z.2) - b * (a * z.1 + m0 * z.2) = z.2 * (a * m1 - b * m0) := by grind
        rw [this, hm, Int.mul_one]
      have k := Int.dvd_sub (Int.dvd_mul_of_dvd_right (b := a) g2) (Int.dvd_mul_of_dvd_right (b := b) g1)
      rw [← this] at k
      exact k
    have := Int.dvd_gcd i1 i2
    rw [hz1] at this
    exact Nat.dvd_one.1 this
  have hbx := hb.x
  have hby := hb.y
  have hgt : Int.gcd (gbk a b z).1 (gbk a b z).2 = 1 ∧ 0 ≤ (gbk a b z).2 ∧ ((gbk a b z).2 = 0 → 0 ≤ (gbk a b z).1) := by
    unfold gbk turnX turnY
    simp only
    cases ht : turnF (gbX a b z) (gbY a b z)
    · simp only [turnF, Bool.or_eq_false_iff, Bool.and_eq_false_iff, decide_eq_false_iff_not] at ht
      simp only [selF]
      exact ⟨hg, by omega, fun h0 => by omega⟩
    · simp only [turnF, Bool.or_eq_true, Bool.and_eq_true, decide_eq_true_eq] at ht
      simp only [selF]
      rw [e1, e2] at ht ⊢
      rw [e1, e2] at hg
      rw [w64_in (by omega) (by omega), w64_in (by omega) (by omega), Int.zero_sub, Int.zero_sub, Int.neg_gcd, Int.gcd_neg]
      exact ⟨hg, by omega, fun h0 => by omega⟩
  have hpr : primF (gbk a b z).1 (gbk a b z).2 = true := by
    unfold primF
    rw [gcdF_eq (by omega) (by omega), hgt.1]; rfl
  unfold isFracF
  rw [hpt, hpr]
  simp only [Bool.true_and, Bool.and_eq_true, Bool.or_eq_true, decide_eq_true_eq]
  refine ⟨hgt.2.1, ?_⟩
  rcases (by omega : (gbk a b z).2 > 0 ∨ (gbk a b z).2 = 0) with h0 | h0
  · exact .inl h0
  · right
    have k := hgt.1
    rw [h0, Int.gcd_zero_right] at k
    have := hgt.2.2 h0
    omega
end
end Go.Ev
end

section
/-
  Contracts of functions of the program (printed by a program of this work; Lean checks each).
  Conditions: as each contract states.
-/
namespace Go.Proofs.Ytnjepaboecijcaa
open Go.Ev Go.RowKit
set_option maxRecDepth 100000
set_option linter.unusedVariables false
set_option linter.unusedSimpArgs false

attribute [local irreducible] isPtF isFracF movX movY levL

theorem c_impl_FareyDistance_ok {a b c d : Int} (hp : (isPtF a b && isPtF c d) = true) (hf : (isFracF a b && isFracF c d) = true) (hn : ¬ (a = c ∧ b = d)) (hM : isPtF (movX a b c d) (movY a b c d) = true) : Pure Try.prog n_impl_FareyDistance [pt a b, pt c d] (t2 (ii (levL (movX a b c d) (movY a b c d))) (ii 0)) := by
  have hq_ : isPtF a b = true ∧ isPtF c d = true := (by simpa using hp); have hg_ : isFracF a b = true ∧ isFracF c d = true := (by simpa using hf); have p1_ := hq_.1; have p2_ := hq_.2; have mv_ : MovOk a b c d := ⟨hg_.1, hg_.2⟩; refine pure_of good fn_impl_FareyDistance rfl rfl ?_
  conv => whnf
  all_goals (repeat' first
    | (refine br_fault ?_; conv => whnf)
    | exact hM
    | exact p1_
    | exact absurd (And.intro (eq_of_dec (show decide (a = c) = true by assumption)) (eq_of_dec (show decide (b = d) = true by assumption))) hn
    | exact mov_fr mv_ hM
    | exact mov_pos mv_ hn
    | (refine br_true (decide_eq_true (rfl : (a : Int) = a)) ?_; conv => whnf)
    | (refine br_true (decide_eq_true (rfl : (b : Int) = b)) ?_; conv => whnf)
    | (refine StoreK.mk rfl ?_; conv => whnf)
    | exact join_same
    | exact (by assumption : (_ : Bool) = (_ : Bool))
    | (refine br_true (by assumption) ?_; conv => whnf)
    | (refine br_false (by assumption) ?_; conv => whnf)
    | (refine br_not ?_; conv => whnf)
    | (refine br_code ?_; conv => whnf)
    | (with_reducible refine br_and ?_; conv => whnf)
    | (with_reducible refine br_or ?_; conv => whnf)
    | (refine br_eq2 ?_; conv => whnf)
    | (refine (c_led_ok ?_ ?_ ?_).call ?_ <;> conv => whnf)
    | (refine (c_led_ok ?_ ?_ ?_).quiet ?_ <;> conv => whnf)
    | (refine (c_level ?_).call ?_ <;> conv => whnf)
    | (refine (c_level ?_).quiet ?_ <;> conv => whnf)
    | (refine draw_auto (by decide +kernel) ?_; conv => whnf)
    | (refine draw_asg (by decide +kernel) ?_; conv => whnf)
    | (refine draw_st (by decide +kernel) ?_; conv => whnf)
    | (refine draw_call (by decide +kernel) ?_; conv => whnf)
    | (refine enter_same (loop_n 12 ?_); conv => whnf)
    | (refine next_same ?_; conv => whnf)
    | (refine mapK_row (by assumption) ?_; conv => whnf)
    | (refine mapK_plain (Plain.of rfl) ?_; conv => whnf)
    | (refine mapK_lit ?_; conv => whnf)
    | (refine br_split (fun _ => ?_) (fun _ => ?_) <;> conv => whnf)
    | exact (rfl : (_ : Value) = _)
    | (first | (rw [l0_]; done) | (rw [l0_]; exact rfl) | (rw [hp, hf]; exact rfl) | (rw [hp]; exact rfl))
    | (simp only [*]; exact (rfl : (_ : Value) = _))
    | (simp [*]; done))

theorem c_impl_FareyDistance_no3 {a b c d : Int} (hp : (isPtF a b && isPtF c d) = true) (hf : (isFracF a b && isFracF c d) = true) (hn : ¬ (a = c ∧ b = d)) (hM : isPtF (movX a b c d) (movY a b c d) = false) : Pure Try.prog n_impl_FareyDistance [pt a b, pt c d] (t2 (ii 0) (ii 3)) := by
  have hq_ : isPtF a b = true ∧ isPtF c d = true := (by simpa using hp); have hg_ : isFracF a b = true ∧ isFracF c d = true := (by simpa using hf); have p1_ := hq_.1; have p2_ := hq_.2; have mv_ : MovOk a b c d := ⟨hg_.1, hg_.2⟩; refine pure_of good fn_impl_FareyDistance rfl rfl ?_
  conv => whnf
  all_goals (repeat' first
    | (refine br_fault ?_; conv => whnf)
    | exact hM
    | exact p1_
    | exact absurd (And.intro (eq_of_dec (show decide (a = c) = true by assumption)) (eq_of_dec (show decide (b = d) = true by assumption))) hn
    | exact mov_fr mv_ hM
    | exact mov_pos mv_ hn
    | (refine br_true (decide_eq_true (rfl : (a : Int) = a)) ?_; conv => whnf)
    | (refine br_true (decide_eq_true (rfl : (b : Int) = b)) ?_; conv => whnf)
    | (refine StoreK.mk rfl ?_; conv => whnf)
    | exact join_same
    | exact (by assumption : (_ : Bool) = (_ : Bool))
    | (refine br_true (by assumption) ?_; conv => whnf)
    | (refine br_false (by assumption) ?_; conv => whnf)
    | (refine br_not ?_; conv => whnf)
    | (refine br_code ?_; conv => whnf)
    | (with_reducible refine br_and ?_; conv => whnf)
    | (with_reducible refine br_or ?_; conv => whnf)
    | (refine br_eq2 ?_; conv => whnf)
    | (refine (c_led_no3 ?_ ?_ ?_).call ?_ <;> conv => whnf)
    | (refine (c_led_no3 ?_ ?_ ?_).quiet ?_ <;> conv => whnf)
    | (refine (c_level ?_).call ?_ <;> conv => whnf)
    | (refine (c_level ?_).quiet ?_ <;> conv => whnf)
    | (refine draw_auto (by decide +kernel) ?_; conv => whnf)
    | (refine draw_asg (by decide +kernel) ?_; conv => whnf)
    | (refine draw_st (by decide +kernel) ?_; conv => whnf)
    | (refine draw_call (by decide +kernel) ?_; conv => whnf)
    | (refine enter_same (loop_n 12 ?_); conv => whnf)
    | (refine next_same ?_; conv => whnf)
    | (refine mapK_row (by assumption) ?_; conv => whnf)
    | (refine mapK_plain (Plain.of rfl) ?_; conv => whnf)
    | (refine mapK_lit ?_; conv => whnf)
    | (refine br_split (fun _ => ?_) (fun _ => ?_) <;> conv => whnf)
    | exact (rfl : (_ : Value) = _)
    | (first | (rw [l0_]; done) | (rw [l0_]; exact rfl) | (rw [hp, hf]; exact rfl) | (rw [hp]; exact rfl))
    | (simp only [*]; exact (rfl : (_ : Value) = _))
    | (simp [*]; done))

theorem c_impl_FareyDistance_same {a b : Int} (hp : isPtF a b = true) (hf : isFracF a b = true) : Pure Try.prog n_impl_FareyDistance [pt a b, pt a b] (t2 (ii 0) (ii 0)) := by
  have p1_ := hp; have mv_ : MovOk a b a b := ⟨hf, hf⟩; have s1_ := mov_self hf; have hM : isPtF (movX a b a b) (movY a b a b) = true := (by rw [s1_.1, s1_.2]; exact isPtF_iff.2 (by omega)); have hp2_ : (isPtF a b && isPtF a b) = true := (by rw [hp]; rfl); have hf2_ : (isFracF a b && isFracF a b) = true := (by rw [hf]; rfl); have l0_ : levL (movX a b a b) (movY a b a b) = 0 := (by have q_ := lev_small (mov_fr mv_ hM) (by rw [s1_.2]; omega); rw [q_, s1_.2]); refine pure_of good fn_impl_FareyDistance rfl rfl ?_
  conv => whnf
  all_goals (repeat' first
    | (refine br_fault ?_; conv => whnf)
    | exact hM
    | exact p1_
    | exact absurd (And.intro (eq_of_dec (show decide (a = c) = true by assumption)) (eq_of_dec (show decide (b = d) = true by assumption))) hn
    | exact mov_fr mv_ hM
    | exact mov_pos mv_ hn
    | (refine br_true (decide_eq_true (rfl : (a : Int) = a)) ?_; conv => whnf)
    | (refine br_true (decide_eq_true (rfl : (b : Int) = b)) ?_; conv => whnf)
    | (refine StoreK.mk rfl ?_; conv => whnf)
    | exact join_same
    | exact (by assumption : (_ : Bool) = (_ : Bool))
    | (refine br_true (by assumption) ?_; conv => whnf)
    | (refine br_false (by assumption) ?_; conv => whnf)
    | (refine br_not ?_; conv => whnf)
    | (refine br_code ?_; conv => whnf)
    | (with_reducible refine br_and ?_; conv => whnf)
    | (with_reducible refine br_or ?_; conv => whnf)
    | (refine br_eq2 ?_; conv => whnf)
    | (refine (c_led_ok ?_ ?_ ?_).call ?_ <;> conv => whnf)
    | (refine (c_led_ok ?_ ?_ ?_).quiet ?_ <;> conv => whnf)
    | (refine (c_level ?_).call ?_ <;> conv => whnf)
    | (refine (c_level ?_).quiet ?_ <;> conv => whnf)
    | (refine draw_auto (by decide +kernel) ?_; conv => whnf)
    | (refine draw_asg (by decide +kernel) ?_; conv => whnf)
    | (refine draw_st (by decide +kernel) ?_; conv => whnf)
    | (refine draw_call (by decide +kernel) ?_; conv => whnf)
    | (refine enter_same (loop_n 12 ?_); conv => whnf)
    | (refine next_same ?_; conv => whnf)
    | (refine mapK_row (by assumption) ?_; conv => whnf)
    | (refine mapK_plain (Plain.of rfl) ?_; conv => whnf)
    | (refine mapK_lit ?_; conv => whnf)
    | (refine br_split (fun _ => ?_) (fun _ => ?_) <;> conv => whnf)
    | exact (rfl : (_ : Value) = _)
    | (first | (rw [l0_]; done) | (rw [l0_]; exact rfl) | (rw [hp, hf]; exact rfl) | (rw [hp]; exact rfl))
    | (simp only [*]; exact (rfl : (_ : Value) = _))
    | (simp [*]; done))

theorem c_impl_FareyDistance_no2 {a b c d : Int} (hp : (isPtF a b && isPtF c d) = true) (hf : (isFracF a b && isFracF c d) = false) : Pure Try.prog n_impl_FareyDistance [pt a b, pt c d] (t2 (ii 0) (ii 2)) := by
  refine pure_of good fn_impl_FareyDistance rfl rfl ?_
  conv => whnf
  all_goals (repeat' first
    | (refine br_fault ?_; conv => whnf)
    | exact hM
    | exact p1_
    | exact absurd (And.intro (eq_of_dec (show decide (a = c) = true by assumption)) (eq_of_dec (show decide (b = d) = true by assumption))) hn
    | exact mov_fr mv_ hM
    | exact mov_pos mv_ hn
    | (refine br_true (decide_eq_true (rfl : (a : Int) = a)) ?_; conv => whnf)
    | (refine br_true (decide_eq_true (rfl : (b : Int) = b)) ?_; conv => whnf)
    | (refine StoreK.mk rfl ?_; conv => whnf)
    | exact join_same
    | exact (by assumption : (_ : Bool) = (_ : Bool))
    | (refine br_true (by assumption) ?_; conv => whnf)
    | (refine br_false (by assumption) ?_; conv => whnf)
    | (refine br_not ?_; conv => whnf)
    | (refine br_code ?_; conv => whnf)
    | (with_reducible refine br_and ?_; conv => whnf)
    | (with_reducible refine br_or ?_; conv => whnf)
    | (refine br_eq2 ?_; conv => whnf)
    | (refine (c_led_no2 ?_ ?_).call ?_ <;> conv => whnf)
    | (refine (c_led_no2 ?_ ?_).quiet ?_ <;> conv => whnf)
    | (refine (c_level ?_).call ?_ <;> conv => whnf)
    | (refine (c_level ?_).quiet ?_ <;> conv => whnf)
    | (refine draw_auto (by decide +kernel) ?_; conv => whnf)
    | (refine draw_asg (by decide +kernel) ?_; conv => whnf)
    | (refine draw_st (by decide +kernel) ?_; conv => whnf)
    | (refine draw_call (by decide +kernel) ?_; conv => whnf)
    | (refine enter_same (loop_n 12 ?_); conv => whnf)
    | (refine next_same ?_; conv => whnf)
    | (refine mapK_row (by assumption) ?_; conv => whnf)
    | (refine mapK_plain (Plain.of rfl) ?_; conv => whnf)
    | (refine mapK_lit ?_; conv => whnf)
    | (refine br_split (fun _ => ?_) (fun _ => ?_) <;> conv => whnf)
    | exact (rfl : (_ : Value) = _)
    | (first | (rw [l0_]; done) | (rw [l0_]; exact rfl) | (rw [hp, hf]; exact rfl) | (rw [hp]; exact rfl))
    | (simp only [*]; exact (rfl : (_ : Value) = _))
    | (simp [*]; done))

theorem c_impl_FareyDistance_no1 {a b c d : Int} (hp : (isPtF a b && isPtF c d) = false) : Pure Try.prog n_impl_FareyDistance [pt a b, pt c d] (t2 (ii 0) (ii 1)) := by
  refine pure_of good fn_impl_FareyDistance rfl rfl ?_
  conv => whnf
  all_goals (repeat' first
    | (refine br_fault ?_; conv => whnf)
    | exact hM
    | exact p1_
    | exact absurd (And.intro (eq_of_dec (show decide (a = c) = true by assumption)) (eq_of_dec (show decide (b = d) = true by assumption))) hn
    | exact mov_fr mv_ hM
    | exact mov_pos mv_ hn
    | (refine br_true (decide_eq_true (rfl : (a : Int) = a)) ?_; conv => whnf)
    | (refine br_true (decide_eq_true (rfl : (b : Int) = b)) ?_; conv => whnf)
    | (refine StoreK.mk rfl ?_; conv => whnf)
    | exact join_same
    | exact (by assumption : (_ : Bool) = (_ : Bool))
    | (refine br_true (by assumption) ?_; conv => whnf)
    | (refine br_false (by assumption) ?_; conv => whnf)
    | (refine br_not ?_; conv => whnf)
    | (refine br_code ?_; conv => whnf)
    | (with_reducible refine br_and ?_; conv => whnf)
    | (with_reducible refine br_or ?_; conv => whnf)
    | (refine br_eq2 ?_; conv => whnf)
    | (refine (c_led_no1 ?_).call ?_ <;> conv => whnf)
    | (refine (c_led_no1 ?_).quiet ?_ <;> conv => whnf)
    | (refine (c_level ?_).call ?_ <;> conv => whnf)
    | (refine (c_level ?_).quiet ?_ <;> conv => whnf)
    | (refine draw_auto (by decide +kernel) ?_; conv => whnf)
    | (refine draw_asg (by decide +kernel) ?_; conv => whnf)
    | (refine draw_st (by decide +kernel) ?_; conv => whnf)
    | (refine draw_call (by decide +kernel) ?_; conv => whnf)
    | (refine enter_same (loop_n 12 ?_); conv => whnf)
    | (refine next_same ?_; conv => whnf)
    | (refine mapK_row (by assumption) ?_; conv => whnf)
    | (refine mapK_plain (Plain.of rfl) ?_; conv => whnf)
    | (refine mapK_lit ?_; conv => whnf)
    | (refine br_split (fun _ => ?_) (fun _ => ?_) <;> conv => whnf)
    | exact (rfl : (_ : Value) = _)
    | (first | (rw [l0_]; done) | (rw [l0_]; exact rfl) | (rw [hp, hf]; exact rfl) | (rw [hp]; exact rfl))
    | (simp only [*]; exact (rfl : (_ : Value) = _))
    | (simp [*]; done))

theorem c_spec_FareyDistance_ok {a b c d : Int} (hp : (isPtF a b && isPtF c d) = true) (hf : (isFracF a b && isFracF c d) = true) (hn : ¬ (a = c ∧ b = d)) (hM : isPtF (movX a b c d) (movY a b c d) = true) : Pure Try.prog n_spec_FareyDistance [pt a b, pt c d] (t2 (ii (levL (movX a b c d) (movY a b c d))) (ii 0)) := by
  have hq_ : isPtF a b = true ∧ isPtF c d = true := (by simpa using hp); have hg_ : isFracF a b = true ∧ isFracF c d = true := (by simpa using hf); have p1_ := hq_.1; have p2_ := hq_.2; have mv_ : MovOk a b c d := ⟨hg_.1, hg_.2⟩; refine pure_of good fn_spec_FareyDistance rfl rfl ?_
  conv => whnf
  all_goals (repeat' first
    | (refine br_fault ?_; conv => whnf)
    | exact hM
    | exact p1_
    | exact absurd (And.intro (eq_of_dec (show decide (a = c) = true by assumption)) (eq_of_dec (show decide (b = d) = true by assumption))) hn
    | exact mov_fr mv_ hM
    | exact mov_pos mv_ hn
    | (refine br_true (decide_eq_true (rfl : (a : Int) = a)) ?_; conv => whnf)
    | (refine br_true (decide_eq_true (rfl : (b : Int) = b)) ?_; conv => whnf)
    | (refine StoreK.mk rfl ?_; conv => whnf)
    | exact join_same
    | exact (by assumption : (_ : Bool) = (_ : Bool))
    | (refine br_true (by assumption) ?_; conv => whnf)
    | (refine br_false (by assumption) ?_; conv => whnf)
    | (refine br_not ?_; conv => whnf)
    | (refine br_code ?_; conv => whnf)
    | (with_reducible refine br_and ?_; conv => whnf)
    | (with_reducible refine br_or ?_; conv => whnf)
    | (refine br_eq2 ?_; conv => whnf)
    | (refine c_l05Code_1.call1 rfl rfl ⟨_, rfl⟩ ?_; conv => whnf)
    | (refine c_l05Code_1.quiet1 rfl rfl ⟨_, rfl⟩ ?_; conv => whnf)
    | (refine c_l05Code_2.call1 rfl rfl ⟨_, rfl⟩ ?_; conv => whnf)
    | (refine c_l05Code_2.quiet1 rfl rfl ⟨_, rfl⟩ ?_; conv => whnf)
    | (refine c_l05Code_3.call1 rfl rfl ⟨_, rfl⟩ ?_; conv => whnf)
    | (refine c_l05Code_3.quiet1 rfl rfl ⟨_, rfl⟩ ?_; conv => whnf)
    | (refine (c_spec_l05Moved ?_).call ?_ <;> conv => whnf)
    | (refine (c_spec_l05Moved ?_).quiet ?_ <;> conv => whnf)
    | (refine (c_spec_l05Level ?_ ?_).call ?_ <;> conv => whnf)
    | (refine (c_spec_l05Level ?_ ?_).quiet ?_ <;> conv => whnf)
    | (refine draw_auto (by decide +kernel) ?_; conv => whnf)
    | (refine draw_asg (by decide +kernel) ?_; conv => whnf)
    | (refine draw_st (by decide +kernel) ?_; conv => whnf)
    | (refine draw_call (by decide +kernel) ?_; conv => whnf)
    | (refine enter_same (loop_n 12 ?_); conv => whnf)
    | (refine next_same ?_; conv => whnf)
    | (refine mapK_row (by assumption) ?_; conv => whnf)
    | (refine mapK_plain (Plain.of rfl) ?_; conv => whnf)
    | (refine mapK_lit ?_; conv => whnf)
    | (refine br_split (fun _ => ?_) (fun _ => ?_) <;> conv => whnf)
    | exact (rfl : (_ : Value) = _)
    | (first | (rw [l0_]; done) | (rw [l0_]; exact rfl) | (rw [hp, hf]; exact rfl) | (rw [hp]; exact rfl))
    | (simp only [*]; exact (rfl : (_ : Value) = _))
    | (simp [*]; done))

theorem c_spec_FareyDistance_no3 {a b c d : Int} (hp : (isPtF a b && isPtF c d) = true) (hf : (isFracF a b && isFracF c d) = true) (hn : ¬ (a = c ∧ b = d)) (hM : isPtF (movX a b c d) (movY a b c d) = false) : Pure Try.prog n_spec_FareyDistance [pt a b, pt c d] (t2 (ii 0) (ii 3)) := by
  have hq_ : isPtF a b = true ∧ isPtF c d = true := (by simpa using hp); have hg_ : isFracF a b = true ∧ isFracF c d = true := (by simpa using hf); have p1_ := hq_.1; have p2_ := hq_.2; have mv_ : MovOk a b c d := ⟨hg_.1, hg_.2⟩; refine pure_of good fn_spec_FareyDistance rfl rfl ?_
  conv => whnf
  all_goals (repeat' first
    | (refine br_fault ?_; conv => whnf)
    | exact hM
    | exact p1_
    | exact absurd (And.intro (eq_of_dec (show decide (a = c) = true by assumption)) (eq_of_dec (show decide (b = d) = true by assumption))) hn
    | exact mov_fr mv_ hM
    | exact mov_pos mv_ hn
    | (refine br_true (decide_eq_true (rfl : (a : Int) = a)) ?_; conv => whnf)
    | (refine br_true (decide_eq_true (rfl : (b : Int) = b)) ?_; conv => whnf)
    | (refine StoreK.mk rfl ?_; conv => whnf)
    | exact join_same
    | exact (by assumption : (_ : Bool) = (_ : Bool))
    | (refine br_true (by assumption) ?_; conv => whnf)
    | (refine br_false (by assumption) ?_; conv => whnf)
    | (refine br_not ?_; conv => whnf)
    | (refine br_code ?_; conv => whnf)
    | (with_reducible refine br_and ?_; conv => whnf)
    | (with_reducible refine br_or ?_; conv => whnf)
    | (refine br_eq2 ?_; conv => whnf)
    | (refine c_l05Code_1.call1 rfl rfl ⟨_, rfl⟩ ?_; conv => whnf)
    | (refine c_l05Code_1.quiet1 rfl rfl ⟨_, rfl⟩ ?_; conv => whnf)
    | (refine c_l05Code_2.call1 rfl rfl ⟨_, rfl⟩ ?_; conv => whnf)
    | (refine c_l05Code_2.quiet1 rfl rfl ⟨_, rfl⟩ ?_; conv => whnf)
    | (refine c_l05Code_3.call1 rfl rfl ⟨_, rfl⟩ ?_; conv => whnf)
    | (refine c_l05Code_3.quiet1 rfl rfl ⟨_, rfl⟩ ?_; conv => whnf)
    | (refine (c_spec_l05Moved ?_).call ?_ <;> conv => whnf)
    | (refine (c_spec_l05Moved ?_).quiet ?_ <;> conv => whnf)
    | (refine (c_spec_l05Level ?_ ?_).call ?_ <;> conv => whnf)
    | (refine (c_spec_l05Level ?_ ?_).quiet ?_ <;> conv => whnf)
    | (refine draw_auto (by decide +kernel) ?_; conv => whnf)
    | (refine draw_asg (by decide +kernel) ?_; conv => whnf)
    | (refine draw_st (by decide +kernel) ?_; conv => whnf)
    | (refine draw_call (by decide +kernel) ?_; conv => whnf)
    | (refine enter_same (loop_n 12 ?_); conv => whnf)
    | (refine next_same ?_; conv => whnf)
    | (refine mapK_row (by assumption) ?_; conv => whnf)
    | (refine mapK_plain (Plain.of rfl) ?_; conv => whnf)
    | (refine mapK_lit ?_; conv => whnf)
    | (refine br_split (fun _ => ?_) (fun _ => ?_) <;> conv => whnf)
    | exact (rfl : (_ : Value) = _)
    | (first | (rw [l0_]; done) | (rw [l0_]; exact rfl) | (rw [hp, hf]; exact rfl) | (rw [hp]; exact rfl))
    | (simp only [*]; exact (rfl : (_ : Value) = _))
    | (simp [*]; done))

theorem c_spec_FareyDistance_same {a b : Int} (hp : isPtF a b = true) (hf : isFracF a b = true) : Pure Try.prog n_spec_FareyDistance [pt a b, pt a b] (t2 (ii 0) (ii 0)) := by
  have p1_ := hp; have mv_ : MovOk a b a b := ⟨hf, hf⟩; have s1_ := mov_self hf; have hM : isPtF (movX a b a b) (movY a b a b) = true := (by rw [s1_.1, s1_.2]; exact isPtF_iff.2 (by omega)); have hp2_ : (isPtF a b && isPtF a b) = true := (by rw [hp]; rfl); have hf2_ : (isFracF a b && isFracF a b) = true := (by rw [hf]; rfl); have l0_ : levL (movX a b a b) (movY a b a b) = 0 := (by have q_ := lev_small (mov_fr mv_ hM) (by rw [s1_.2]; omega); rw [q_, s1_.2]); refine pure_of good fn_spec_FareyDistance rfl rfl ?_
  conv => whnf
  all_goals (repeat' first
    | (refine br_fault ?_; conv => whnf)
    | exact hM
    | exact p1_
    | exact absurd (And.intro (eq_of_dec (show decide (a = c) = true by assumption)) (eq_of_dec (show decide (b = d) = true by assumption))) hn
    | exact mov_fr mv_ hM
    | exact mov_pos mv_ hn
    | (refine br_true (decide_eq_true (rfl : (a : Int) = a)) ?_; conv => whnf)
    | (refine br_true (decide_eq_true (rfl : (b : Int) = b)) ?_; conv => whnf)
    | (refine StoreK.mk rfl ?_; conv => whnf)
    | exact join_same
    | exact (by assumption : (_ : Bool) = (_ : Bool))
    | (refine br_true (by assumption) ?_; conv => whnf)
    | (refine br_false (by assumption) ?_; conv => whnf)
    | (refine br_not ?_; conv => whnf)
    | (refine br_code ?_; conv => whnf)
    | (with_reducible refine br_and ?_; conv => whnf)
    | (with_reducible refine br_or ?_; conv => whnf)
    | (refine br_eq2 ?_; conv => whnf)
    | (refine c_l05Code_1.call1 rfl rfl ⟨_, rfl⟩ ?_; conv => whnf)
    | (refine c_l05Code_1.quiet1 rfl rfl ⟨_, rfl⟩ ?_; conv => whnf)
    | (refine c_l05Code_2.call1 rfl rfl ⟨_, rfl⟩ ?_; conv => whnf)
    | (refine c_l05Code_2.quiet1 rfl rfl ⟨_, rfl⟩ ?_; conv => whnf)
    | (refine c_l05Code_3.call1 rfl rfl ⟨_, rfl⟩ ?_; conv => whnf)
    | (refine c_l05Code_3.quiet1 rfl rfl ⟨_, rfl⟩ ?_; conv => whnf)
    | (refine (c_spec_l05Moved ?_).call ?_ <;> conv => whnf)
    | (refine (c_spec_l05Moved ?_).quiet ?_ <;> conv => whnf)
    | (refine (c_spec_l05Level ?_ ?_).call ?_ <;> conv => whnf)
    | (refine (c_spec_l05Level ?_ ?_).quiet ?_ <;> conv => whnf)
    | (refine draw_auto (by decide +kernel) ?_; conv => whnf)
    | (refine draw_asg (by decide +kernel) ?_; conv => whnf)
    | (refine draw_st (by decide +kernel) ?_; conv => whnf)
    | (refine draw_call (by decide +kernel) ?_; conv => whnf)
    | (refine enter_same (loop_n 12 ?_); conv => whnf)
    | (refine next_same ?_; conv => whnf)
    | (refine mapK_row (by assumption) ?_; conv => whnf)
    | (refine mapK_plain (Plain.of rfl) ?_; conv => whnf)
    | (refine mapK_lit ?_; conv => whnf)
    | (refine br_split (fun _ => ?_) (fun _ => ?_) <;> conv => whnf)
    | exact (rfl : (_ : Value) = _)
    | (first | (rw [l0_]; done) | (rw [l0_]; exact rfl) | (rw [hp, hf]; exact rfl) | (rw [hp]; exact rfl))
    | (simp only [*]; exact (rfl : (_ : Value) = _))
    | (simp [*]; done))

theorem c_spec_FareyDistance_no2 {a b c d : Int} (hp : (isPtF a b && isPtF c d) = true) (hf : (isFracF a b && isFracF c d) = false) : Pure Try.prog n_spec_FareyDistance [pt a b, pt c d] (t2 (ii 0) (ii 2)) := by
  refine pure_of good fn_spec_FareyDistance rfl rfl ?_
  conv => whnf
  all_goals (repeat' first
    | (refine br_fault ?_; conv => whnf)
    | exact hM
    | exact p1_
    | exact absurd (And.intro (eq_of_dec (show decide (a = c) = true by assumption)) (eq_of_dec (show decide (b = d) = true by assumption))) hn
    | exact mov_fr mv_ hM
    | exact mov_pos mv_ hn
    | (refine br_true (decide_eq_true (rfl : (a : Int) = a)) ?_; conv => whnf)
    | (refine br_true (decide_eq_true (rfl : (b : Int) = b)) ?_; conv => whnf)
    | (refine StoreK.mk rfl ?_; conv => whnf)
    | exact join_same
    | exact (by assumption : (_ : Bool) = (_ : Bool))
    | (refine br_true (by assumption) ?_; conv => whnf)
    | (refine br_false (by assumption) ?_; conv => whnf)
    | (refine br_not ?_; conv => whnf)
    | (refine br_code ?_; conv => whnf)
    | (with_reducible refine br_and ?_; conv => whnf)
    | (with_reducible refine br_or ?_; conv => whnf)
    | (refine br_eq2 ?_; conv => whnf)
    | (refine c_l05Code_1.call1 rfl rfl ⟨_, rfl⟩ ?_; conv => whnf)
    | (refine c_l05Code_1.quiet1 rfl rfl ⟨_, rfl⟩ ?_; conv => whnf)
    | (refine c_l05Code_2.call1 rfl rfl ⟨_, rfl⟩ ?_; conv => whnf)
    | (refine c_l05Code_2.quiet1 rfl rfl ⟨_, rfl⟩ ?_; conv => whnf)
    | (refine c_l05Code_3.call1 rfl rfl ⟨_, rfl⟩ ?_; conv => whnf)
    | (refine c_l05Code_3.quiet1 rfl rfl ⟨_, rfl⟩ ?_; conv => whnf)
    | (refine (c_spec_l05Moved ?_).call ?_ <;> conv => whnf)
    | (refine (c_spec_l05Moved ?_).quiet ?_ <;> conv => whnf)
    | (refine (c_spec_l05Level ?_ ?_).call ?_ <;> conv => whnf)
    | (refine (c_spec_l05Level ?_ ?_).quiet ?_ <;> conv => whnf)
    | (refine draw_auto (by decide +kernel) ?_; conv => whnf)
    | (refine draw_asg (by decide +kernel) ?_; conv => whnf)
    | (refine draw_st (by decide +kernel) ?_; conv => whnf)
    | (refine draw_call (by decide +kernel) ?_; conv => whnf)
    | (refine enter_same (loop_n 12 ?_); conv => whnf)
    | (refine next_same ?_; conv => whnf)
    | (refine mapK_row (by assumption) ?_; conv => whnf)
    | (refine mapK_plain (Plain.of rfl) ?_; conv => whnf)
    | (refine mapK_lit ?_; conv => whnf)
    | (refine br_split (fun _ => ?_) (fun _ => ?_) <;> conv => whnf)
    | exact (rfl : (_ : Value) = _)
    | (first | (rw [l0_]; done) | (rw [l0_]; exact rfl) | (rw [hp, hf]; exact rfl) | (rw [hp]; exact rfl))
    | (simp only [*]; exact (rfl : (_ : Value) = _))
    | (simp [*]; done))

theorem c_spec_FareyDistance_no1 {a b c d : Int} (hp : (isPtF a b && isPtF c d) = false) : Pure Try.prog n_spec_FareyDistance [pt a b, pt c d] (t2 (ii 0) (ii 1)) := by
  refine pure_of good fn_spec_FareyDistance rfl rfl ?_
  conv => whnf
  all_goals (repeat' first
    | (refine br_fault ?_; conv => whnf)
    | exact hM
    | exact p1_
    | exact absurd (And.intro (eq_of_dec (show decide (a = c) = true by assumption)) (eq_of_dec (show decide (b = d) = true by assumption))) hn
    | exact mov_fr mv_ hM
    | exact mov_pos mv_ hn
    | (refine br_true (decide_eq_true (rfl : (a : Int) = a)) ?_; conv => whnf)
    | (refine br_true (decide_eq_true (rfl : (b : Int) = b)) ?_; conv => whnf)
    | (refine StoreK.mk rfl ?_; conv => whnf)
    | exact join_same
    | exact (by assumption : (_ : Bool) = (_ : Bool))
    | (refine br_true (by assumption) ?_; conv => whnf)
    | (refine br_false (by assumption) ?_; conv => whnf)
    | (refine br_not ?_; conv => whnf)
    | (refine br_code ?_; conv => whnf)
    | (with_reducible refine br_and ?_; conv => whnf)
    | (with_reducible refine br_or ?_; conv => whnf)
    | (refine br_eq2 ?_; conv => whnf)
    | (refine c_l05Code_1.call1 rfl rfl ⟨_, rfl⟩ ?_; conv => whnf)
    | (refine c_l05Code_1.quiet1 rfl rfl ⟨_, rfl⟩ ?_; conv => whnf)
    | (refine c_l05Code_2.call1 rfl rfl ⟨_, rfl⟩ ?_; conv => whnf)
    | (refine c_l05Code_2.quiet1 rfl rfl ⟨_, rfl⟩ ?_; conv => whnf)
    | (refine c_l05Code_3.call1 rfl rfl ⟨_, rfl⟩ ?_; conv => whnf)
    | (refine c_l05Code_3.quiet1 rfl rfl ⟨_, rfl⟩ ?_; conv => whnf)
    | (refine (c_spec_l05Moved ?_).call ?_ <;> conv => whnf)
    | (refine (c_spec_l05Moved ?_).quiet ?_ <;> conv => whnf)
    | (refine (c_spec_l05Level ?_ ?_).call ?_ <;> conv => whnf)
    | (refine (c_spec_l05Level ?_ ?_).quiet ?_ <;> conv => whnf)
    | (refine draw_auto (by decide +kernel) ?_; conv => whnf)
    | (refine draw_asg (by decide +kernel) ?_; conv => whnf)
    | (refine draw_st (by decide +kernel) ?_; conv => whnf)
    | (refine draw_call (by decide +kernel) ?_; conv => whnf)
    | (refine enter_same (loop_n 12 ?_); conv => whnf)
    | (refine next_same ?_; conv => whnf)
    | (refine mapK_row (by assumption) ?_; conv => whnf)
    | (refine mapK_plain (Plain.of rfl) ?_; conv => whnf)
    | (refine mapK_lit ?_; conv => whnf)
    | (refine br_split (fun _ => ?_) (fun _ => ?_) <;> conv => whnf)
    | exact (rfl : (_ : Value) = _)
    | (first | (rw [l0_]; done) | (rw [l0_]; exact rfl) | (rw [hp, hf]; exact rfl) | (rw [hp]; exact rfl))
    | (simp only [*]; exact (rfl : (_ : Value) = _))
    | (simp [*]; done))

theorem c_law_FareyDistance_ok {a b c d : Int} (hp : (isPtF a b && isPtF c d) = true) (hf : (isFracF a b && isFracF c d) = true) (hn : ¬ (a = c ∧ b = d)) (hM : isPtF (movX a b c d) (movY a b c d) = true) : Pure Try.prog n_laws_FnExactFareyDistance [pt a b, pt c d] (bb true) := by
  refine pure_of good fn_laws_FnExactFareyDistance rfl rfl ?_
  conv => whnf
  all_goals (repeat' first
    | exact hp
    | exact hf
    | exact hn
    | exact hM
    | (refine br_true ?_ ?_; (focus (simp; done)); conv => whnf)
    | (refine br_false ?_ ?_; (focus (simp; done)); conv => whnf)
    | (refine StoreK.mk rfl ?_; conv => whnf)
    | exact join_same
    | exact (by assumption : (_ : Bool) = (_ : Bool))
    | (refine br_true (by assumption) ?_; conv => whnf)
    | (refine br_false (by assumption) ?_; conv => whnf)
    | (refine br_not ?_; conv => whnf)
    | (refine br_code ?_; conv => whnf)
    | (with_reducible refine br_and ?_; conv => whnf)
    | (with_reducible refine br_or ?_; conv => whnf)
    | (refine br_eq2 ?_; conv => whnf)
    | (refine c_laws_toPoint.call ?_; conv => whnf)
    | (refine c_laws_toPoint.quiet ?_; conv => whnf)
    | (refine (c_spec_FareyDistance_ok ?_ ?_ ?_ ?_).call ?_ <;> conv => whnf)
    | (refine (c_spec_FareyDistance_ok ?_ ?_ ?_ ?_).quiet ?_ <;> conv => whnf)
    | (refine (c_impl_FareyDistance_ok ?_ ?_ ?_ ?_).call ?_ <;> conv => whnf)
    | (refine (c_impl_FareyDistance_ok ?_ ?_ ?_ ?_).quiet ?_ <;> conv => whnf)
    | (refine draw_auto (by decide +kernel) ?_; conv => whnf)
    | (refine draw_asg (by decide +kernel) ?_; conv => whnf)
    | (refine draw_st (by decide +kernel) ?_; conv => whnf)
    | (refine draw_call (by decide +kernel) ?_; conv => whnf)
    | (refine enter_same (loop_n 12 ?_); conv => whnf)
    | (refine next_same ?_; conv => whnf)
    | (refine mapK_row (by assumption) ?_; conv => whnf)
    | (refine mapK_plain (Plain.of rfl) ?_; conv => whnf)
    | (refine mapK_lit ?_; conv => whnf)
    | (refine br_split (fun _ => ?_) (fun _ => ?_) <;> conv => whnf)
    | exact (rfl : (_ : Value) = _)
    | (simp only [*]; exact (rfl : (_ : Value) = _))
    | (simp [*]; done))

theorem c_law_FareyDistance_no3 {a b c d : Int} (hp : (isPtF a b && isPtF c d) = true) (hf : (isFracF a b && isFracF c d) = true) (hn : ¬ (a = c ∧ b = d)) (hM : isPtF (movX a b c d) (movY a b c d) = false) : Pure Try.prog n_laws_FnExactFareyDistance [pt a b, pt c d] (bb true) := by
  refine pure_of good fn_laws_FnExactFareyDistance rfl rfl ?_
  conv => whnf
  all_goals (repeat' first
    | exact hp
    | exact hf
    | exact hn
    | exact hM
    | (refine br_true ?_ ?_; (focus (simp; done)); conv => whnf)
    | (refine br_false ?_ ?_; (focus (simp; done)); conv => whnf)
    | (refine StoreK.mk rfl ?_; conv => whnf)
    | exact join_same
    | exact (by assumption : (_ : Bool) = (_ : Bool))
    | (refine br_true (by assumption) ?_; conv => whnf)
    | (refine br_false (by assumption) ?_; conv => whnf)
    | (refine br_not ?_; conv => whnf)
    | (refine br_code ?_; conv => whnf)
    | (with_reducible refine br_and ?_; conv => whnf)
    | (with_reducible refine br_or ?_; conv => whnf)
    | (refine br_eq2 ?_; conv => whnf)
    | (refine c_laws_toPoint.call ?_; conv => whnf)
    | (refine c_laws_toPoint.quiet ?_; conv => whnf)
    | (refine (c_spec_FareyDistance_no3 ?_ ?_ ?_ ?_).call ?_ <;> conv => whnf)
    | (refine (c_spec_FareyDistance_no3 ?_ ?_ ?_ ?_).quiet ?_ <;> conv => whnf)
    | (refine (c_impl_FareyDistance_no3 ?_ ?_ ?_ ?_).call ?_ <;> conv => whnf)
    | (refine (c_impl_FareyDistance_no3 ?_ ?_ ?_ ?_).quiet ?_ <;> conv => whnf)
    | (refine draw_auto (by decide +kernel) ?_; conv => whnf)
    | (refine draw_asg (by decide +kernel) ?_; conv => whnf)
    | (refine draw_st (by decide +kernel) ?_; conv => whnf)
    | (refine draw_call (by decide +kernel) ?_; conv => whnf)
    | (refine enter_same (loop_n 12 ?_); conv => whnf)
    | (refine next_same ?_; conv => whnf)
    | (refine mapK_row (by assumption) ?_; conv => whnf)
    | (refine mapK_plain (Plain.of rfl) ?_; conv => whnf)
    | (refine mapK_lit ?_; conv => whnf)
    | (refine br_split (fun _ => ?_) (fun _ => ?_) <;> conv => whnf)
    | exact (rfl : (_ : Value) = _)
    | (simp only [*]; exact (rfl : (_ : Value) = _))
    | (simp [*]; done))

theorem c_law_FareyDistance_same {a b : Int} (hp : isPtF a b = true) (hf : isFracF a b = true) : Pure Try.prog n_laws_FnExactFareyDistance [pt a b, pt a b] (bb true) := by
  refine pure_of good fn_laws_FnExactFareyDistance rfl rfl ?_
  conv => whnf
  all_goals (repeat' first
    | exact hp
    | exact hf
    | exact hn
    | exact hM
    | (refine br_true ?_ ?_; (focus (simp; done)); conv => whnf)
    | (refine br_false ?_ ?_; (focus (simp; done)); conv => whnf)
    | (refine StoreK.mk rfl ?_; conv => whnf)
    | exact join_same
    | exact (by assumption : (_ : Bool) = (_ : Bool))
    | (refine br_true (by assumption) ?_; conv => whnf)
    | (refine br_false (by assumption) ?_; conv => whnf)
    | (refine br_not ?_; conv => whnf)
    | (refine br_code ?_; conv => whnf)
    | (with_reducible refine br_and ?_; conv => whnf)
    | (with_reducible refine br_or ?_; conv => whnf)
    | (refine br_eq2 ?_; conv => whnf)
    | (refine c_laws_toPoint.call ?_; conv => whnf)
    | (refine c_laws_toPoint.quiet ?_; conv => whnf)
    | (refine (c_spec_FareyDistance_same ?_ ?_).call ?_ <;> conv => whnf)
    | (refine (c_spec_FareyDistance_same ?_ ?_).quiet ?_ <;> conv => whnf)
    | (refine (c_impl_FareyDistance_same ?_ ?_).call ?_ <;> conv => whnf)
    | (refine (c_impl_FareyDistance_same ?_ ?_).quiet ?_ <;> conv => whnf)
    | (refine draw_auto (by decide +kernel) ?_; conv => whnf)
    | (refine draw_asg (by decide +kernel) ?_; conv => whnf)
    | (refine draw_st (by decide +kernel) ?_; conv => whnf)
    | (refine draw_call (by decide +kernel) ?_; conv => whnf)
    | (refine enter_same (loop_n 12 ?_); conv => whnf)
    | (refine next_same ?_; conv => whnf)
    | (refine mapK_row (by assumption) ?_; conv => whnf)
    | (refine mapK_plain (Plain.of rfl) ?_; conv => whnf)
    | (refine mapK_lit ?_; conv => whnf)
    | (refine br_split (fun _ => ?_) (fun _ => ?_) <;> conv => whnf)
    | exact (rfl : (_ : Value) = _)
    | (simp only [*]; exact (rfl : (_ : Value) = _))
    | (simp [*]; done))

theorem c_law_FareyDistance_no2 {a b c d : Int} (hp : (isPtF a b && isPtF c d) = true) (hf : (isFracF a b && isFracF c d) = false) : Pure Try.prog n_laws_FnExactFareyDistance [pt a b, pt c d] (bb true) := by
  refine pure_of good fn_laws_FnExactFareyDistance rfl rfl ?_
  conv => whnf
  all_goals (repeat' first
    | exact hp
    | exact hf
    | exact hn
    | exact hM
    | (refine br_true ?_ ?_; (focus (simp; done)); conv => whnf)
    | (refine br_false ?_ ?_; (focus (simp; done)); conv => whnf)
    | (refine StoreK.mk rfl ?_; conv => whnf)
    | exact join_same
    | exact (by assumption : (_ : Bool) = (_ : Bool))
    | (refine br_true (by assumption) ?_; conv => whnf)
    | (refine br_false (by assumption) ?_; conv => whnf)
    | (refine br_not ?_; conv => whnf)
    | (refine br_code ?_; conv => whnf)
    | (with_reducible refine br_and ?_; conv => whnf)
    | (with_reducible refine br_or ?_; conv => whnf)
    | (refine br_eq2 ?_; conv => whnf)
    | (refine c_laws_toPoint.call ?_; conv => whnf)
    | (refine c_laws_toPoint.quiet ?_; conv => whnf)
    | (refine (c_spec_FareyDistance_no2 ?_ ?_).call ?_ <;> conv => whnf)
    | (refine (c_spec_FareyDistance_no2 ?_ ?_).quiet ?_ <;> conv => whnf)
    | (refine (c_impl_FareyDistance_no2 ?_ ?_).call ?_ <;> conv => whnf)
    | (refine (c_impl_FareyDistance_no2 ?_ ?_).quiet ?_ <;> conv => whnf)
    | (refine draw_auto (by decide +kernel) ?_; conv => whnf)
    | (refine draw_asg (by decide +kernel) ?_; conv => whnf)
    | (refine draw_st (by decide +kernel) ?_; conv => whnf)
    | (refine draw_call (by decide +kernel) ?_; conv => whnf)
    | (refine enter_same (loop_n 12 ?_); conv => whnf)
    | (refine next_same ?_; conv => whnf)
    | (refine mapK_row (by assumption) ?_; conv => whnf)
    | (refine mapK_plain (Plain.of rfl) ?_; conv => whnf)
    | (refine mapK_lit ?_; conv => whnf)
    | (refine br_split (fun _ => ?_) (fun _ => ?_) <;> conv => whnf)
    | exact (rfl : (_ : Value) = _)
    | (simp only [*]; exact (rfl : (_ : Value) = _))
    | (simp [*]; done))

theorem c_law_FareyDistance_no1 {a b c d : Int} (hp : (isPtF a b && isPtF c d) = false) : Pure Try.prog n_laws_FnExactFareyDistance [pt a b, pt c d] (bb true) := by
  refine pure_of good fn_laws_FnExactFareyDistance rfl rfl ?_
  conv => whnf
  all_goals (repeat' first
    | exact hp
    | exact hf
    | exact hn
    | exact hM
    | (refine br_true ?_ ?_; (focus (simp; done)); conv => whnf)
    | (refine br_false ?_ ?_; (focus (simp; done)); conv => whnf)
    | (refine StoreK.mk rfl ?_; conv => whnf)
    | exact join_same
    | exact (by assumption : (_ : Bool) = (_ : Bool))
    | (refine br_true (by assumption) ?_; conv => whnf)
    | (refine br_false (by assumption) ?_; conv => whnf)
    | (refine br_not ?_; conv => whnf)
    | (refine br_code ?_; conv => whnf)
    | (with_reducible refine br_and ?_; conv => whnf)
    | (with_reducible refine br_or ?_; conv => whnf)
    | (refine br_eq2 ?_; conv => whnf)
    | (refine c_laws_toPoint.call ?_; conv => whnf)
    | (refine c_laws_toPoint.quiet ?_; conv => whnf)
    | (refine (c_spec_FareyDistance_no1 ?_).call ?_ <;> conv => whnf)
    | (refine (c_spec_FareyDistance_no1 ?_).quiet ?_ <;> conv => whnf)
    | (refine (c_impl_FareyDistance_no1 ?_).call ?_ <;> conv => whnf)
    | (refine (c_impl_FareyDistance_no1 ?_).quiet ?_ <;> conv => whnf)
    | (refine draw_auto (by decide +kernel) ?_; conv => whnf)
    | (refine draw_asg (by decide +kernel) ?_; conv => whnf)
    | (refine draw_st (by decide +kernel) ?_; conv => whnf)
    | (refine draw_call (by decide +kernel) ?_; conv => whnf)
    | (refine enter_same (loop_n 12 ?_); conv => whnf)
    | (refine next_same ?_; conv => whnf)
    | (refine mapK_row (by assumption) ?_; conv => whnf)
    | (refine mapK_plain (Plain.of rfl) ?_; conv => whnf)
    | (refine mapK_lit ?_; conv => whnf)
    | (refine br_split (fun _ => ?_) (fun _ => ?_) <;> conv => whnf)
    | exact (rfl : (_ : Value) = _)
    | (simp only [*]; exact (rfl : (_ : Value) = _))
    | (simp [*]; done))

theorem c_laws_FnExactFareyDistance {a b c d : Int} : Pure Try.prog n_laws_FnExactFareyDistance [pt a b, pt c d] (bb true) := by
  cases hp : (isPtF a b && isPtF c d)
  · exact c_law_FareyDistance_no1 hp
  · cases hf : (isFracF a b && isFracF c d)
    · exact c_law_FareyDistance_no2 hp hf
    · by_cases hn : a = c ∧ b = d
      · obtain ⟨rfl, rfl⟩ := hn
        exact c_law_FareyDistance_same (by simpa using hp) (by simpa using hf)
      · cases hM : isPtF (movX a b c d) (movY a b c d)
        · exact c_law_FareyDistance_no3 hp hf hn hM
        · exact c_law_FareyDistance_ok hp hf hn hM

end Go.Proofs.Ytnjepaboecijcaa
end
