/-
  Several texts of this work in one (a claim holds at most 60 files).
  Conditions: as each contract states.
-/
import Derived.Test.YtlkbfpklhncfbaaGreatDoorEvRow
import Derived.Test.YtlkbfpklhncfbaaGreatDoorEvUse
import Derived.ChangeSlices
import Derived.Test.YtlkbfpklhncfbaaGreatDoorKM1
section
/-
  The rows: arguments that are slices of whole numbers, opened; a law's contract over a row that came in, used at the row.
  Conditions: none.
-/
set_option linter.unusedVariables false
set_option linter.unusedSimpArgs false
namespace Go.Ev
open Go.ChangeShapes Go.WideShapes Go.ChangeAt Go.RowKit

/-- Cells behind off cells that are not told. -/
def away (off : Nat) (L : List Value) : List Value := List.replicate off wild ++ L
theorem away_ok {off : Nat} {L : List Value} (h : Plain L) (n : Nat) : ∀ v ∈ away off L, ok0 n v := fun v hv => by
  rcases List.mem_append.1 hv with hv | hv
  · rw [List.eq_of_mem_replicate hv]; trivial
  · exact h.ok n v hv
theorem away_conc {off : Nat} {L : List Value} (h : Plain L) (ρ : List Nat) : (away off L).map (conc0 ρ) = away off L := by
  unfold away
  rw [List.map_append, h.map, List.map_replicate]; rfl
theorem take_away {off o : Nat} {L : List Value} {k : Nat} : List.take k (List.drop (off + o) (away off L)) = List.take k (List.drop o L) := by
  unfold away
  rw [← List.drop_drop, List.drop_left' (by simp)]

/-- What a slice that came in holds. -/
structure ArgAt (W : World) (ab off : Nat) (L : List Value) : Prop where
  lt : ab < W.heap.size
  at_ : ∀ i u, L[i]? = some u → W.cell? ⟨ab, off + i, none⟩ = some u

theorem run_arg {P : Program} {f n c off : Nat} {L : List Value} {W : World} (hl : LayW W) {ab : Nat} {R : Value → Mem → Prop} (h : CallOK P f [.slice (some ⟨0, off, none⟩) n c] [(away off L, none)] R) (hR : ∀ v m, R v m → v = .bool true) (hL : Plain L) (ha : ArgAt W ab off L) :
    Calls P f #[.slice (some ⟨ab, off, none⟩) n c] W (fun e w' => e = .returned (.bool true) ∧ Below W.heap.size W w') := by
  have hm : MemAt ⟨W, []⟩ [ab] [(away off L, none)] W := by
    refine ⟨rfl, rfl, rfl, Nat.le_refl _, rfl, fun b hb => by rw [List.mem_singleton] at hb; subst hb; exact ha.lt, fun i j cs t hi => ?_, fun _ _ _ => rfl, fun k cs t hk => ?_, fun k cs t hk => ?_, fun k cs hk => ?_, ⟨hl, fun _ h => by cases h⟩⟩
    · cases i with
      | zero => cases hi
      | succ i => cases hi
    · cases k with
      | zero => cases hk
      | succ k => cases hk
    · cases k with
      | zero => cases hk
      | succ k => cases hk
    · cases k with
      | succ k => cases hk
      | zero =>
        simp only [List.getElem?_cons_zero, Option.some.injEq, Prod.mk.injEq, and_true] at hk
        subst hk
        intro _
        refine ⟨ha.lt, by simp, fun i v hv hw => ?_, away_ok hL _⟩
        unfold away at hv
        rcases Nat.lt_or_ge i off with hi | hi
        · rw [List.getElem?_append_left (by simpa using hi)] at hv
          have := List.eq_of_mem_replicate (List.mem_of_getElem? hv)
          subst this
          cases hw
        · rw [List.getElem?_append_right (by simpa using hi), List.length_replicate] at hv
          have := ha.at_ _ _ hv
          rw [show off + (i - off) = i by omega] at this
          have hc : conc0 [ab] v = v := (plain0_ok (hL v (List.mem_of_getElem? hv)) 0 [ab]).2
          rw [hc]
          exact this
  have := h.run ⟨W, []⟩ [ab] W hm (fun v hv => by rw [List.mem_singleton] at hv; subst hv; show (0 : Nat) < 1; omega)
  refine this.mono fun e w' ⟨v, mem', σ, h1, h2, h3, h4⟩ => ?_
  have := hR _ _ h4
  subst this
  exact ⟨h1, h3.toBelow⟩

/-- An argument that is a slice of whole numbers. -/
theorem open_slice_nums {H : Type} {enc : TypeId × Value → H} {P : Program} {W : World} {base b0 : Nat} {held : Bool} {r : Reach} {t e : TypeId} {k : IntKind} {v : Value} {d : DataW H} {ps : List MemPlace}
    (ht : P.underlying t = some (.slice e)) (he : P.underlying e = some (.int k)) (hc : P.cellsOf e = 1) (hval : Value.okWide P W r b0 t v) (hd : DataW.Trod enc P W base (fun _ => true) held t v d ps) :
    v = .slice none 0 0 ∨ ∃ (ab ao len cap : Nat) (zs : List Int), v = .slice (some ⟨ab, ao, none⟩) len cap ∧ len ≤ cap ∧ cap ≤ maxLen ∧ zs.length = cap ∧ ArgAt W ab ao (zs.map (Value.int k)) ∧ ∀ n ∈ zs, (Lit.int k n).wf = true := by
  obtain ⟨a1, len, cap, rfl⟩ := okWide_slice ht hval
  obtain ⟨fuel, hf⟩ := hd
  rcases open_ints ht he hc hf with ⟨hcs, hx⟩ | ⟨a, len', cap', zs, hcs, _, hl, hm, hz, hx, hcell, hwz⟩
  · simp [Value.cells] at hcs
    obtain ⟨rfl, rfl, rfl⟩ := hcs
    exact .inl rfl
  · simp [Value.cells] at hcs
    obtain ⟨rfl, rfl, rfl⟩ := hcs
    simp only [if_true] at hz
    obtain ⟨ab, ao, spot⟩ := a
    simp only [Value.okWide, ht, Cell.okWide, Cell.ok, World.has] at hval
    obtain ⟨_, _, _, hspot, row, cells, hsh, _⟩ := hval
    subst hspot
    refine .inr ⟨ab, ao, len, cap, zs, rfl, hl, hm, hz, ⟨?_, fun i u hu => ?_⟩, hwz⟩
    · rcases Nat.lt_or_ge ab W.heap.size with h | h
      · exact h
      · simp [World.shape?, h] at hsh
    · rw [List.getElem?_map] at hu
      cases hzi : zs[i]? with
      | none => rw [hzi] at hu; cases hu
      | some z =>
        rw [hzi] at hu
        simp only [Option.map_some, Option.some.injEq] at hu
        subst hu
        have := hcell i (getElem?_len hzi)
        rw [Addr.add_lit] at this
        rw [this]
        congr 2
        simp [List.getD, hzi]

/-- A row of bytes. -/
def bl (xs : List Int) : List Value := xs.map (Value.int .u8)
def IsByte (x : Int) : Prop := 0 ≤ x ∧ x ≤ 255
theorem bl_plain (xs : List Int) : Plain (bl xs) := fun v hv => by
  obtain ⟨x, _, rfl⟩ := List.mem_map.1 hv
  rfl
theorem bl_len (xs : List Int) : (bl xs).length = xs.length := by simp [bl]
theorem byte_wf {n : Int} (h : (Lit.int .u8 n).wf = true) : IsByte n := bounds_u8 h
theorem take_bl {xs : List Int} {off o i : Nat} {L : List Value} (hL : L = bl xs) (ho : o = off + i) (hi : i < xs.length) : List.take 1 (List.drop o (away off L)) = [.int .u8 (xs.getD i 0)] := by
  subst ho hL
  rw [take_away]
  have h1 : i < (bl xs).length := by rw [bl_len]; exact hi
  rw [List.drop_eq_getElem_cons h1]
  have : (bl xs)[i] = Value.int .u8 (xs.getD i 0) := by simp [bl, List.getD, hi]
  rw [this]
  rfl

/-! ### Words of 64 bits -/

theorem u64_wrap (n : Int) : 0 ≤ IntKind.u64.wrap n ∧ IntKind.u64.wrap n < 18446744073709551616 := by
  have h1 : IntKind.u64.wrap n = n % 18446744073709551616 := rfl
  rw [h1]
  omega
theorem u64and_le (a : Int) : 0 ≤ u64and a 1073741823 ∧ u64and a 1073741823 ≤ 1073741823 := by
  unfold u64and
  have h1 : (BitVec.ofInt IntKind.u64.bits a &&& BitVec.ofInt IntKind.u64.bits 1073741823).toNat ≤ 1073741823 := by
    rw [BitVec.toNat_and]
    exact Nat.and_le_right
  generalize (BitVec.ofInt IntKind.u64.bits a &&& BitVec.ofInt IntKind.u64.bits 1073741823).toNat = m at *
  have h2 : IntKind.u64.wrap (m : Int) = (m : Int) % 18446744073709551616 := rfl
  rw [h2]
  omega

end Go.Ev
end

section
/-
  The source of numbers that the draws use: what is told of it. Conditions: none.
-/
set_option linter.unusedVariables false
set_option linter.unusedSimpArgs false
namespace Go.Ev
open Go.RowKit

abbrev wv (h : Int) : Value := .int .u64 h
/-- A source's place in a code of n bytes. -/
structure SrcAt (n : Nat) (o : Int) : Prop where
  lo : 0 ≤ o
  hi : o ≤ (n : Int)
theorem SrcAt.zero (n : Nat) : SrcAt n 0 := ⟨Int.le_refl _, by omega⟩
theorem SrcAt.next {n : Nat} {o : Int} (h : SrcAt n o) (hn : n ≤ 4096) (ho : o < (n : Int)) : SrcAt n (w64 (o + 1)) := by
  have := h.lo
  rw [w64_in (by omega) (by omega)]
  exact ⟨by omega, by omega⟩
/-- A number below m, if m is at least 1. -/
def Below1 (m x : Int) : Prop := 1 ≤ m → 0 ≤ x ∧ x < m
theorem below_mod {m x : Int} (hx : 0 ≤ x) : Below1 m (x.tmod m) := fun hm => by
  rw [tmod_pos hx]
  exact ⟨Int.emod_nonneg _ (by omega), Int.emod_lt_of_pos _ (by omega)⟩
theorem below_zero {m : Int} (hm : m < 1) : Below1 m 0 := fun h => by omega
theorem src_x (h : Int) : 0 ≤ w64 (u64and h 1073741823) ∧ w64 (u64and h 1073741823) ≤ 1073741823 := by
  have := u64and_le h
  rw [w64_in (by omega) (by omega)]; exact this
theorem src_xb {h b : Int} (hb : IsByte b) : 0 ≤ w64 (w64 (u64and h 1073741823) + w64 b) := by
  have h1 := src_x h
  have h2 := hb.1; have h3 := hb.2
  rw [w64_in (n := b) (by omega) (by omega), w64_in (by omega) (by omega)]
  omega
theorem byte_at {zs : List Int} (hb : ∀ z ∈ zs, IsByte z) {i : Nat} (hi : i < zs.length) : IsByte (zs.getD i 0) := hb _ (getD_mem hi)
theorem take_il0 {xs : List Int} {off i : Nat} (ho : off = i) (hi : i < xs.length) : List.take 1 (List.drop off (il xs)) = [iv (xs.getD i 0)] := by
  have := take_il (xs := xs) (sp := []) ho hi
  rwa [List.append_nil] at this
theorem three_of {x : Int} (h : Below1 3 x) : x = 0 ∨ x = 1 ∨ x = 2 := by
  have := h (by omega)
  omega

end Go.Ev
end

section
/-
  The use of a contract whose result holds no address: the result as it is told, memory with its cells told. Conditions: none.
-/
set_option linter.unusedVariables false
namespace Go.Ev
open Go.RowKit

theorem mapK_eval {κ : List Nat} {cs cs' : List Value} {k : List Value → Prop} (h : cs.map (conc0 κ) = cs') (hk : k cs') : MapK κ cs k := ⟨by rw [h]; exact hk⟩

theorem CallOK.useD {P : Program} {f : Nat} {args0 args : List Value} {mem0 mem : Mem} {R k : Value → Mem → Prop} (h : CallOK P f args0 mem0 R) (ι : List Nat) (hargs : args0.map (conc ι) = args)
    (hok : allL (okB1 mem0.length) args0 = true) (hnd : nodupB ι = true) (hblk : blkV ι mem mem0.length ι mem0)
    (hk : ∀ v mem', R v mem' → kindsB (mem0.map (·.2)) (mem'.map (·.2)) = true ∧ ∃ v', (∀ κ, conc κ v = v') ∧ setK (iotaL ι mem.length (mem'.length - mem0.length)) mem ι mem' fun m1 =>
      newK (iotaL ι mem.length (mem'.length - mem0.length)) m1 (mem'.drop mem0.length) fun m2 => k v' m2) : CallOK P f args mem k := by
  refine h.useR ι hargs hok hnd hblk fun v mem' hR => ?_
  obtain ⟨h3, v', hv, h4⟩ := hk v mem' hR
  refine ⟨h3, ?_⟩
  simp only [forceV_eq, hv]
  exact h4

end Go.Ev
end

section
/-
  Contracts of functions of the program (printed by a program of this work; Lean checks each).
  Conditions: as each contract states.
-/
namespace Go.Proofs.YtlkbfpklhncfbaaGreatDoor
open Go.Ev Go.RowKit
set_option maxRecDepth 100000
set_option linter.unusedVariables false
set_option linter.unusedSimpArgs false

set_option maxHeartbeats 1000000 in
theorem c_From_L {zs : List Int} {off n c : Nat} (hz : n ≤ zs.length) (hb : ∀ z ∈ zs, IsByte z) (hn : n ≤ 4096) : CallOK Tryz.prog n_spec_l01From [.slice (some ⟨0, off, none⟩) n c] [(away off (bl zs), none)] (fun v m_ => ∃ h, v = .pointer (some ⟨1, 0, none⟩) ∧ m_ = [(away off (bl zs), none), ([.slice (some ⟨0, off, none⟩) n c, ii 0, wv h], some t_spec_l01Source)]) := by
  refine callOK_ofF good fn_spec_l01From ?_
  conv => whnf
  all_goals (repeat' first
    | (refine enter_forget [1] (loop_rec (fun (s : Int × Int) => match s with | (i, h) => [.slice (some ⟨0, off, none⟩) n c, wild, wild, .pointer (some ⟨1, 0, none⟩), ii i, wild, wild, wild, wild, wild, wild, wild, wild, wild, wild, wild, wild, wild, wild, wild, wild, wild, wild, wild, wild, wild, wild, wild, wild, wild, wild, wild, wild, wild, wild, wild, wild, wild]) (fun (s : Int × Int) => match s with | (i, h) => [(away off (bl zs), none), ([.slice (some ⟨0, off, none⟩) n c, ii 0, wv h], some t_spec_l01Source)]) (fun (s : Int × Int) => match s with | (i, h) => ((n : Int) - i).toNat) (fun (s : Int × Int) => match s with | (i, h) => 0 ≤ i ∧ i ≤ (n : Int)) (0, u64add 12971 (u64of (n : Int))) (by omega) ?_) (tmR_rfl rfl rfl) ⟨⟨⟨_, rfl, .lit (away_conc (bl_plain _) _).symm rfl (away_ok (bl_plain _) _)⟩⟩, ⟨⟨_, rfl, .lit rfl rfl (fun v hv => okB0_spec (allL_spec rfl v hv))⟩⟩, trivial⟩ rfl rfl; rintro fuel_ ⟨i, h⟩ hI IH; replace hI : 0 ≤ i ∧ i ≤ (n : Int) := hI; conv => whnf)
    | exact next_forget [1] (IH (w64 (i + 1), _) (idx_next hI (show decide (i < (n : Int)) = true by assumption) (by omega)) (idx_mu hI (show decide (i < (n : Int)) = true by assumption) (by omega))) (tmR_rfl rfl rfl) ⟨⟨⟨_, rfl, .lit (away_conc (bl_plain _) _).symm rfl (away_ok (bl_plain _) _)⟩⟩, ⟨⟨_, rfl, .lit rfl rfl (fun v hv => okB0_spec (allL_spec rfl v hv))⟩⟩, trivial⟩ rfl rfl
    | (refine br_in hI.1 (of_decide_eq_true (show decide (i < (n : Int)) = true by assumption)) ?_; conv => whnf)
    | (refine force_eq (take_bl (xs := zs) (i := i.toNat) rfl ?_ ?_) ?_; (focus (simp only [Nat.mul_one]; done)); (focus (have := hI.1; have := of_decide_eq_true (show decide (i < (n : Int)) = true by assumption); omega)); conv => whnf)
    | (show OutK _ _ _ _; exact out_forget [_] ⟨_, rfl, rfl⟩ rfl (okB2_spec rfl) ⟨⟨⟨_, rfl, .lit (away_conc (bl_plain _) _).symm rfl (away_ok (bl_plain _) _)⟩⟩, ⟨⟨_, rfl, .lit rfl rfl (fun v hv => okB0_spec (allL_spec rfl v hv))⟩⟩, trivial⟩ rfl rfl)
    | (refine StoreK.mk rfl ?_; conv => whnf)
    | exact join_same
    | exact (by assumption : (_ : Bool) = (_ : Bool))
    | (refine br_true (by assumption) ?_; conv => whnf)
    | (refine br_false (by assumption) ?_; conv => whnf)
    | (refine br_not ?_; conv => whnf)
    | (refine br_code ?_; conv => whnf)
    | (with_reducible refine br_and ?_; conv => whnf)
    | (with_reducible refine br_or ?_; conv => whnf)
    | (refine br_eq2 ?_; conv => whnf)
    | (refine draw_auto (by decide +kernel) ?_; conv => whnf)
    | (refine draw_asg (by decide +kernel) ?_; conv => whnf)
    | (refine draw_st (by decide +kernel) ?_; conv => whnf)
    | (refine draw_call (by decide +kernel) ?_; conv => whnf)
    | (refine enter_same (loop_n 12 ?_); conv => whnf)
    | (refine next_same ?_; conv => whnf)
    | (refine mapK_row (by assumption) ?_; conv => whnf)
    | (refine mapK_plain (Plain.of rfl) ?_; conv => whnf)
    | (refine mapK_lit ?_; conv => whnf)
    | (refine br_split (fun _ => ?_) (fun _ => ?_) <;> conv => whnf)
    | exact (rfl : (_ : Value) = _)
    | (simp only [*]; exact (rfl : (_ : Value) = _))
    | (simp [*]; done))

set_option maxHeartbeats 1000000 in
theorem c_Next_L {zs : List Int} {off n c : Nat} {o h m : Int} (hz : n ≤ zs.length) (hb : ∀ z ∈ zs, IsByte z) (hn : n ≤ 4096) (ha : SrcAt n o) : CallOK Tryz.prog n_spec_l01Next [.pointer (some ⟨1, 0, none⟩), ii m] [(away off (bl zs), none), ([.slice (some ⟨0, off, none⟩) n c, ii o, wv h], some t_spec_l01Source)] (fun v m_ => ∃ x o2 h2, Below1 m x ∧ SrcAt n o2 ∧ v = ii x ∧ m_ = [(away off (bl zs), none), ([.slice (some ⟨0, off, none⟩) n c, ii o2, wv h2], some t_spec_l01Source)]) := by
  refine callOK_ofF good fn_spec_l01Next ?_
  conv => whnf
  all_goals (repeat' first
    | (refine br_false (b := decide (m = 0)) (decide_eq_false ?_) ?_; (focus (have := of_decide_eq_false (show decide (m < 1) = false by assumption); omega)); conv => whnf)
    | (refine br_in ha.lo (of_decide_eq_true (show decide (o < (n : Int)) = true by assumption)) ?_; conv => whnf)
    | (refine force_eq (take_bl (xs := zs) (i := o.toNat) rfl ?_ ?_) ?_; (focus (simp only [Nat.mul_one]; done)); (focus (have := ha.lo; have := of_decide_eq_true (show decide (o < (n : Int)) = true by assumption); omega)); conv => whnf)
    | (show OutK _ _ _ _; rename decide (m < 1) = true => q0_; (exact out_forget [] ⟨_, _, _, below_zero (of_decide_eq_true q0_), ha, rfl, rfl⟩ rfl (okB2_spec rfl) ⟨⟨⟨_, rfl, .lit (away_conc (bl_plain _) _).symm rfl (away_ok (bl_plain _) _)⟩⟩, ⟨⟨_, rfl, .lit rfl rfl (fun v hv => okB0_spec (allL_spec rfl v hv))⟩⟩, trivial⟩ rfl rfl))
    | (show OutK _ _ _ _; rename decide (o < ((n : Nat) : Int)) = false => q0_; (exact out_forget [] ⟨_, _, _, below_mod (src_x _).1, ha, rfl, rfl⟩ rfl (okB2_spec rfl) ⟨⟨⟨_, rfl, .lit (away_conc (bl_plain _) _).symm rfl (away_ok (bl_plain _) _)⟩⟩, ⟨⟨_, rfl, .lit rfl rfl (fun v hv => okB0_spec (allL_spec rfl v hv))⟩⟩, trivial⟩ rfl rfl))
    | (show OutK _ _ _ _; rename decide (o < ((n : Nat) : Int)) = true => q0_; (exact out_forget [] ⟨_, _, _, below_mod (src_xb (byte_at hb (by have := ha.lo; have := of_decide_eq_true q0_; omega))), ha.next hn (of_decide_eq_true q0_), rfl, rfl⟩ rfl (okB2_spec rfl) ⟨⟨⟨_, rfl, .lit (away_conc (bl_plain _) _).symm rfl (away_ok (bl_plain _) _)⟩⟩, ⟨⟨_, rfl, .lit rfl rfl (fun v hv => okB0_spec (allL_spec rfl v hv))⟩⟩, trivial⟩ rfl rfl))
    | (refine StoreK.mk rfl ?_; conv => whnf)
    | exact join_same
    | exact (by assumption : (_ : Bool) = (_ : Bool))
    | (refine br_true (by assumption) ?_; conv => whnf)
    | (refine br_false (by assumption) ?_; conv => whnf)
    | (refine br_not ?_; conv => whnf)
    | (refine br_code ?_; conv => whnf)
    | (with_reducible refine br_and ?_; conv => whnf)
    | (with_reducible refine br_or ?_; conv => whnf)
    | (refine br_eq2 ?_; conv => whnf)
    | (refine draw_auto (by decide +kernel) ?_; conv => whnf)
    | (refine draw_asg (by decide +kernel) ?_; conv => whnf)
    | (refine draw_st (by decide +kernel) ?_; conv => whnf)
    | (refine draw_call (by decide +kernel) ?_; conv => whnf)
    | (refine enter_same (loop_n 12 ?_); conv => whnf)
    | (refine next_same ?_; conv => whnf)
    | (refine mapK_row (by assumption) ?_; conv => whnf)
    | (refine mapK_plain (Plain.of rfl) ?_; conv => whnf)
    | (refine mapK_lit ?_; conv => whnf)
    | (refine br_split (fun _ => ?_) (fun _ => ?_) <;> conv => whnf)
    | exact (rfl : (_ : Value) = _)
    | (simp only [*]; exact (rfl : (_ : Value) = _))
    | (simp [*]; done))

set_option maxHeartbeats 1000000 in
theorem c_From_N   : CallOK Tryz.prog n_spec_l01From [.slice none 0 0] [] (fun v m_ => ∃ h, v = .pointer (some ⟨0, 0, none⟩) ∧ m_ = [([.slice none 0 0, ii 0, wv h], some t_spec_l01Source)]) := by
  refine callOK_ofF good fn_spec_l01From ?_
  conv => whnf
  all_goals (repeat' first
    | (refine br_in hI.1 (of_decide_eq_true (show decide (i < (n : Int)) = true by assumption)) ?_; conv => whnf)
    | (refine force_eq (take_bl (xs := zs) (i := i.toNat) rfl ?_ ?_) ?_; (focus (simp only [Nat.mul_one]; done)); (focus (have := hI.1; have := of_decide_eq_true (show decide (i < (n : Int)) = true by assumption); omega)); conv => whnf)
    | (show OutK _ _ _ _; exact out_forget [_] ⟨_, rfl, rfl⟩ rfl (okB2_spec rfl) ⟨⟨⟨_, rfl, .lit rfl rfl (fun v hv => okB0_spec (allL_spec rfl v hv))⟩⟩, trivial⟩ rfl rfl)
    | (refine StoreK.mk rfl ?_; conv => whnf)
    | exact join_same
    | exact (by assumption : (_ : Bool) = (_ : Bool))
    | (refine br_true (by assumption) ?_; conv => whnf)
    | (refine br_false (by assumption) ?_; conv => whnf)
    | (refine br_not ?_; conv => whnf)
    | (refine br_code ?_; conv => whnf)
    | (with_reducible refine br_and ?_; conv => whnf)
    | (with_reducible refine br_or ?_; conv => whnf)
    | (refine br_eq2 ?_; conv => whnf)
    | (refine draw_auto (by decide +kernel) ?_; conv => whnf)
    | (refine draw_asg (by decide +kernel) ?_; conv => whnf)
    | (refine draw_st (by decide +kernel) ?_; conv => whnf)
    | (refine draw_call (by decide +kernel) ?_; conv => whnf)
    | (refine enter_same (loop_n 12 ?_); conv => whnf)
    | (refine next_same ?_; conv => whnf)
    | (refine mapK_row (by assumption) ?_; conv => whnf)
    | (refine mapK_plain (Plain.of rfl) ?_; conv => whnf)
    | (refine mapK_lit ?_; conv => whnf)
    | (refine br_split (fun _ => ?_) (fun _ => ?_) <;> conv => whnf)
    | exact (rfl : (_ : Value) = _)
    | (simp only [*]; exact (rfl : (_ : Value) = _))
    | (simp [*]; done))

set_option maxHeartbeats 1000000 in
theorem c_Next_N  {o h m : Int}  (ha : SrcAt 0 o) : CallOK Tryz.prog n_spec_l01Next [.pointer (some ⟨0, 0, none⟩), ii m] [([.slice none 0 0, ii o, wv h], some t_spec_l01Source)] (fun v m_ => ∃ x o2 h2, Below1 m x ∧ SrcAt 0 o2 ∧ v = ii x ∧ m_ = [([.slice none 0 0, ii o2, wv h2], some t_spec_l01Source)]) := by
  refine callOK_ofF good fn_spec_l01Next ?_
  conv => whnf
  all_goals (repeat' first
    | (refine br_false (b := decide (m = 0)) (decide_eq_false ?_) ?_; (focus (have := of_decide_eq_false (show decide (m < 1) = false by assumption); omega)); conv => whnf)
    | (refine br_in ha.lo (of_decide_eq_true (show decide (o < (n : Int)) = true by assumption)) ?_; conv => whnf)
    | (refine force_eq (take_bl (xs := zs) (i := o.toNat) rfl ?_ ?_) ?_; (focus (simp only [Nat.mul_one]; done)); (focus (have := ha.lo; have := of_decide_eq_true (show decide (o < (n : Int)) = true by assumption); omega)); conv => whnf)
    | (show OutK _ _ _ _; rename decide (m < 1) = true => q0_; (exact out_forget [] ⟨_, _, _, below_zero (of_decide_eq_true q0_), ha, rfl, rfl⟩ rfl (okB2_spec rfl) ⟨⟨⟨_, rfl, .lit rfl rfl (fun v hv => okB0_spec (allL_spec rfl v hv))⟩⟩, trivial⟩ rfl rfl))
    | (show OutK _ _ _ _; rename decide (o < ((0 : Nat) : Int)) = false => q0_; (exact out_forget [] ⟨_, _, _, below_mod (src_x _).1, ha, rfl, rfl⟩ rfl (okB2_spec rfl) ⟨⟨⟨_, rfl, .lit rfl rfl (fun v hv => okB0_spec (allL_spec rfl v hv))⟩⟩, trivial⟩ rfl rfl))
    | exact absurd (of_decide_eq_true (show decide (o < ((0 : Nat) : Int)) = true by assumption)) (by have := ha.lo; omega)
    | (refine StoreK.mk rfl ?_; conv => whnf)
    | exact join_same
    | exact (by assumption : (_ : Bool) = (_ : Bool))
    | (refine br_true (by assumption) ?_; conv => whnf)
    | (refine br_false (by assumption) ?_; conv => whnf)
    | (refine br_not ?_; conv => whnf)
    | (refine br_code ?_; conv => whnf)
    | (with_reducible refine br_and ?_; conv => whnf)
    | (with_reducible refine br_or ?_; conv => whnf)
    | (refine br_eq2 ?_; conv => whnf)
    | (refine draw_auto (by decide +kernel) ?_; conv => whnf)
    | (refine draw_asg (by decide +kernel) ?_; conv => whnf)
    | (refine draw_st (by decide +kernel) ?_; conv => whnf)
    | (refine draw_call (by decide +kernel) ?_; conv => whnf)
    | (refine enter_same (loop_n 12 ?_); conv => whnf)
    | (refine next_same ?_; conv => whnf)
    | (refine mapK_row (by assumption) ?_; conv => whnf)
    | (refine mapK_plain (Plain.of rfl) ?_; conv => whnf)
    | (refine mapK_lit ?_; conv => whnf)
    | (refine br_split (fun _ => ?_) (fun _ => ?_) <;> conv => whnf)
    | exact (rfl : (_ : Value) = _)
    | (simp only [*]; exact (rfl : (_ : Value) = _))
    | (simp [*]; done))

end Go.Proofs.YtlkbfpklhncfbaaGreatDoor
end

section
/-
  Contracts of functions of the program (printed by a program of this work; Lean checks each).
  Conditions: as each contract states.
-/
namespace Go.Proofs.YtlkbfpklhncfbaaGreatDoor
open Go.Ev Go.RowKit
set_option maxRecDepth 100000
set_option linter.unusedVariables false
set_option linter.unusedSimpArgs false



end Go.Proofs.YtlkbfpklhncfbaaGreatDoor
end

section
/-
  Contracts of functions of the program (printed by a program of this work; Lean checks each).
  Conditions: as each contract states.
-/
namespace Go.Proofs.YtlkbfpklhncfbaaGreatDoor
open Go.Ev Go.RowKit
set_option maxRecDepth 100000
set_option linter.unusedVariables false
set_option linter.unusedSimpArgs false

set_option maxHeartbeats 1000000 in
theorem c_Pick_L {zs : List Int} {off n c : Nat} {o h : Int} {xs : List Int} (hz : n ≤ zs.length) (hb : ∀ z ∈ zs, IsByte z) (hn : n ≤ 4096) (ha : SrcAt n o) (hl : 1 ≤ xs.length) (hl2 : xs.length ≤ 100) : CallOK Tryz.prog n_spec_l01Pick [.pointer (some ⟨1, 0, none⟩), .slice (some ⟨2, 0, none⟩) xs.length xs.length] [(away off (bl zs), none), ([.slice (some ⟨0, off, none⟩) n c, ii o, wv h], some t_spec_l01Source), (il xs, none)] (fun v m_ => ∃ y o2 h2, SrcAt n o2 ∧ v = ii y ∧ m_ = [(away off (bl zs), none), ([.slice (some ⟨0, off, none⟩) n c, ii o2, wv h2], some t_spec_l01Source), (il xs, none)]) := by
  refine callOK_ofF good fn_spec_l01Pick ?_
  conv => whnf
  all_goals (repeat' first
    | (refine CallOK.useD (c_Next_L hz hb hn (by assumption)) [0, 1] rfl rfl rfl ⟨⟨⟨_, rfl, .lit (away_conc (bl_plain _) _).symm (fun _ h_ => by cases h_) (away_ok (bl_plain _) _)⟩⟩, ⟨⟨_, rfl, .lit rfl (fun _ h_ => h_) (fun v hv => okB0_spec (allL_spec rfl v hv))⟩⟩, trivial⟩ (fun v_ mem_ hR => ?_); obtain ⟨x_, o_, h_, hx_, ha_, rfl, rfl⟩ := hR; refine ⟨rfl, ii x_, fun _ => rfl, ?_⟩; (conv => whnf); refine mapK_eval (cs' := [.slice (some ⟨0, off, none⟩) n c, ii o_, wv h_]) rfl ?_; conv => whnf)
    | (refine br_in (i := x_) (n := xs.length) ?_ ?_ ?_; (focus (have := hx_ (by omega); omega)); (focus (have := hx_ (by omega); omega)); conv => whnf)
    | (refine force_eq (take_il0 (xs := xs) (i := x_.toNat) ?_ ?_) ?_; (focus (simp only [Nat.mul_one, Nat.zero_add]; done)); (focus (have := hx_ (by omega); omega)); conv => whnf)
    | (show OutK _ _ _ _; (exact out_forget [] ⟨_, _, _, ha_, rfl, rfl⟩ rfl (okB2_spec rfl) ⟨⟨⟨_, rfl, .lit (away_conc (bl_plain _) _).symm rfl (away_ok (bl_plain _) _)⟩⟩, ⟨⟨_, rfl, .lit rfl rfl (fun v hv => okB0_spec (allL_spec rfl v hv))⟩⟩, ⟨⟨_, rfl, .plain rfl rfl (il_plain _)⟩⟩, trivial⟩ rfl rfl))
    | (refine StoreK.mk rfl ?_; conv => whnf)
    | exact join_same
    | exact (by assumption : (_ : Bool) = (_ : Bool))
    | (refine br_true (by assumption) ?_; conv => whnf)
    | (refine br_false (by assumption) ?_; conv => whnf)
    | (refine br_not ?_; conv => whnf)
    | (refine br_code ?_; conv => whnf)
    | (with_reducible refine br_and ?_; conv => whnf)
    | (with_reducible refine br_or ?_; conv => whnf)
    | (refine br_eq2 ?_; conv => whnf)
    | (refine draw_auto (by decide +kernel) ?_; conv => whnf)
    | (refine draw_asg (by decide +kernel) ?_; conv => whnf)
    | (refine draw_st (by decide +kernel) ?_; conv => whnf)
    | (refine draw_call (by decide +kernel) ?_; conv => whnf)
    | (refine enter_same (loop_n 12 ?_); conv => whnf)
    | (refine next_same ?_; conv => whnf)
    | (refine mapK_row (by assumption) ?_; conv => whnf)
    | (refine mapK_plain (Plain.of rfl) ?_; conv => whnf)
    | (refine mapK_lit ?_; conv => whnf)
    | (refine br_split (fun _ => ?_) (fun _ => ?_) <;> conv => whnf)
    | exact (rfl : (_ : Value) = _)
    | (simp only [*]; exact (rfl : (_ : Value) = _))
    | (simp [*]; done))

set_option maxHeartbeats 1000000 in
theorem c_Pick_N  {o h : Int} {xs : List Int}  (ha : SrcAt 0 o) (hl : 1 ≤ xs.length) (hl2 : xs.length ≤ 100) : CallOK Tryz.prog n_spec_l01Pick [.pointer (some ⟨0, 0, none⟩), .slice (some ⟨1, 0, none⟩) xs.length xs.length] [([.slice none 0 0, ii o, wv h], some t_spec_l01Source), (il xs, none)] (fun v m_ => ∃ y o2 h2, SrcAt 0 o2 ∧ v = ii y ∧ m_ = [([.slice none 0 0, ii o2, wv h2], some t_spec_l01Source), (il xs, none)]) := by
  refine callOK_ofF good fn_spec_l01Pick ?_
  conv => whnf
  all_goals (repeat' first
    | (refine CallOK.useD (c_Next_N (by assumption)) [0] rfl rfl rfl ⟨⟨⟨_, rfl, .lit rfl (fun _ h_ => h_) (fun v hv => okB0_spec (allL_spec rfl v hv))⟩⟩, trivial⟩ (fun v_ mem_ hR => ?_); obtain ⟨x_, o_, h_, hx_, ha_, rfl, rfl⟩ := hR; refine ⟨rfl, ii x_, fun _ => rfl, ?_⟩; (conv => whnf); refine mapK_eval (cs' := [.slice none 0 0, ii o_, wv h_]) rfl ?_; conv => whnf)
    | (refine br_in (i := x_) (n := xs.length) ?_ ?_ ?_; (focus (have := hx_ (by omega); omega)); (focus (have := hx_ (by omega); omega)); conv => whnf)
    | (refine force_eq (take_il0 (xs := xs) (i := x_.toNat) ?_ ?_) ?_; (focus (simp only [Nat.mul_one, Nat.zero_add]; done)); (focus (have := hx_ (by omega); omega)); conv => whnf)
    | (show OutK _ _ _ _; (exact out_forget [] ⟨_, _, _, ha_, rfl, rfl⟩ rfl (okB2_spec rfl) ⟨⟨⟨_, rfl, .lit rfl rfl (fun v hv => okB0_spec (allL_spec rfl v hv))⟩⟩, ⟨⟨_, rfl, .plain rfl rfl (il_plain _)⟩⟩, trivial⟩ rfl rfl))
    | (refine StoreK.mk rfl ?_; conv => whnf)
    | exact join_same
    | exact (by assumption : (_ : Bool) = (_ : Bool))
    | (refine br_true (by assumption) ?_; conv => whnf)
    | (refine br_false (by assumption) ?_; conv => whnf)
    | (refine br_not ?_; conv => whnf)
    | (refine br_code ?_; conv => whnf)
    | (with_reducible refine br_and ?_; conv => whnf)
    | (with_reducible refine br_or ?_; conv => whnf)
    | (refine br_eq2 ?_; conv => whnf)
    | (refine draw_auto (by decide +kernel) ?_; conv => whnf)
    | (refine draw_asg (by decide +kernel) ?_; conv => whnf)
    | (refine draw_st (by decide +kernel) ?_; conv => whnf)
    | (refine draw_call (by decide +kernel) ?_; conv => whnf)
    | (refine enter_same (loop_n 12 ?_); conv => whnf)
    | (refine next_same ?_; conv => whnf)
    | (refine mapK_row (by assumption) ?_; conv => whnf)
    | (refine mapK_plain (Plain.of rfl) ?_; conv => whnf)
    | (refine mapK_lit ?_; conv => whnf)
    | (refine br_split (fun _ => ?_) (fun _ => ?_) <;> conv => whnf)
    | exact (rfl : (_ : Value) = _)
    | (simp only [*]; exact (rfl : (_ : Value) = _))
    | (simp [*]; done))

end Go.Proofs.YtlkbfpklhncfbaaGreatDoor
end

section
/-
  Small numbers; the length of a spot.
  Conditions: none.
-/
set_option linter.unusedVariables false
set_option linter.unusedSimpArgs false
namespace Go.Ev
def sm (a m : Int) : Prop := -m ≤ a ∧ a ≤ m

theorem sm_mul {x y m n : Int} (hx : sm x m) (hy : sm y n) (hm : 0 ≤ m) : sm (x * y) (m * n) := mul_abs hx.1 hx.2 hy.1 hy.2 hm
def lnF (a b c : Int) : Int := gcdF (gcdF a b) c
theorem lnF_eq {a b c : Int} (ha : sm a 3200) (hb : sm b 3200) (hc : sm c 3200) : lnF a b c = ((Int.gcd (Int.gcd a b : Int) c : Nat) : Int) := by
  unfold sm at *
  have h1 : gcdF a b = (Int.gcd a b : Int) := gcdF_eq (by omega) (by omega)
  unfold lnF
  rw [h1]
  refine gcdF_eq ?_ (by omega)
  by_cases h : a = 0
  · subst h; simp; omega
  · have := Nat.gcd_le_left (n := b.natAbs) (m := a.natAbs) (by omega)
    have e : Int.gcd a b = Nat.gcd a.natAbs b.natAbs := rfl
    rw [e]; simp only [Int.natAbs_natCast]; omega
theorem gcd3_dvd (a b c : Int) : ((Int.gcd (Int.gcd a b : Int) c : Nat) : Int) ∣ a ∧ ((Int.gcd (Int.gcd a b : Int) c : Nat) : Int) ∣ b ∧ ((Int.gcd (Int.gcd a b : Int) c : Nat) : Int) ∣ c := by
  have h1 : ((Int.gcd (Int.gcd a b : Int) c : Nat) : Int) ∣ (Int.gcd a b : Int) := Int.gcd_dvd_left ..
  exact ⟨Int.dvd_trans h1 (Int.gcd_dvd_left ..), Int.dvd_trans h1 (Int.gcd_dvd_right ..), Int.gcd_dvd_right ..⟩
theorem gcd3_pos {a b c : Int} (h : ¬ (a = 0 ∧ b = 0 ∧ c = 0)) : 0 < ((Int.gcd (Int.gcd a b : Int) c : Nat) : Int) := by
  rcases Int.lt_or_le 0 ((Int.gcd (Int.gcd a b : Int) c : Nat) : Int) with h1 | h1
  · exact h1
  · have h2 : ((Int.gcd (Int.gcd a b : Int) c : Nat) : Int) = 0 := by omega
    have h3 := gcd3_dvd a b c
    rw [h2] at h3
    exact absurd ⟨Int.zero_dvd.1 h3.1, Int.zero_dvd.1 h3.2.1, Int.zero_dvd.1 h3.2.2⟩ h

end Go.Ev
end

section
/-
  Spots in tetrahedra: the parts have the volume of the whole just where the coordinates tell so. The plain law.
  Conditions: none.
-/
set_option linter.unusedVariables false
set_option linter.unusedSimpArgs false
namespace Go.Ev

def tvF (a b c d e f g h i x y z : Int) : Int := sizeF (volF (plusF d (-1) a) (plusF e (-1) b) (plusF f (-1) c) (plusF g (-1) a) (plusF h (-1) b) (plusF i (-1) c) (plusF x (-1) a) (plusF y (-1) b) (plusF z (-1) c))
theorem volF_pt {a b c d e f g h i : Int} (ha : sm a 40) (hb : sm b 40) (hc : sm c 40) (hd : sm d 40) (he : sm e 40) (hf : sm f 40) (hg : sm g 40) (hh : sm h 40) (hi : sm i 40) :
    volF a b c d e f g h i = volP a b c d e f g h i ∧ sm (volP a b c d e f g h i) 384000 := by
  have h1 := sm_mul he hi (by omega); have h2 := sm_mul hf hh (by omega); have h3 := sm_mul hf hg (by omega); have h4 := sm_mul hd hi (by omega); have h5 := sm_mul hd hh (by omega); have h6 := sm_mul he hg (by omega)
  have k1 : sm (e * i - f * h) 3200 := by unfold sm at *; omega
  have k2 : sm (f * g - d * i) 3200 := by unfold sm at *; omega
  have k3 : sm (d * h - e * g) 3200 := by unfold sm at *; omega
  have l1 := sm_mul ha k1 (by omega); have l2 := sm_mul hb k2 (by omega); have l3 := sm_mul hc k3 (by omega)
  have hv : sm (volP a b c d e f g h i) 384000 := by unfold volP; unfold sm at *; omega
  refine ⟨?_, hv⟩
  rw [volF_eq]
  unfold sm at hv
  rw [w64_in (by omega) (by omega)]
theorem plus_pt {a b : Int} (ha : sm a 20) (hb : sm b 20) : plusF a (-1) b = a - b ∧ sm (a - b) 40 := by
  unfold sm at *
  rw [plusF_neg, w64_in (by omega) (by omega)]
  omega
theorem isSpF_iff {a b c : Int} : isSpF a b c = true ↔ sm a 20 ∧ sm b 20 ∧ sm c 20 := by
  unfold isSpF isSF inF sm
  simp only [Bool.and_eq_true, decide_eq_true_eq, ge_iff_le]
  omega
/-- The numbers of a tetrahedron's corners are small. -/
structure TetOk (a b c d e f g h i x y z : Int) : Prop where
  s0 : isSpF a b c = true
  s1 : isSpF d e f = true
  s2 : isSpF g h i = true
  s3 : isSpF x y z = true
theorem tv_eq {a b c d e f g h i x y z : Int} (k : TetOk a b c d e f g h i x y z) :
    tvF a b c d e f g h i x y z = (volP (d - a) (e - b) (f - c) (g - a) (h - b) (i - c) (x - a) (y - b) (z - c)).natAbs ∧ sm (volP (d - a) (e - b) (f - c) (g - a) (h - b) (i - c) (x - a) (y - b) (z - c)) 384000 := by
  obtain ⟨ha, hb, hc⟩ := isSpF_iff.1 k.s0
  obtain ⟨hd, he, hf⟩ := isSpF_iff.1 k.s1
  obtain ⟨hg, hh, hi⟩ := isSpF_iff.1 k.s2
  obtain ⟨hx, hy, hz⟩ := isSpF_iff.1 k.s3
  unfold tvF
  rw [(plus_pt hd ha).1, (plus_pt he hb).1, (plus_pt hf hc).1, (plus_pt hg ha).1, (plus_pt hh hb).1, (plus_pt hi hc).1, (plus_pt hx ha).1, (plus_pt hy hb).1, (plus_pt hz hc).1]
  have := volF_pt (plus_pt hd ha).2 (plus_pt he hb).2 (plus_pt hf hc).2 (plus_pt hg ha).2 (plus_pt hh hb).2 (plus_pt hi hc).2 (plus_pt hx ha).2 (plus_pt hy hb).2 (plus_pt hz hc).2
  refine ⟨?_, this.2⟩
  rw [this.1]
  have h2 := this.2
  unfold sm at h2
  unfold sizeF maxi
  rw [w64_in (by omega) (by omega)]
  split <;> omega

/-- The volumes of the four parts that (p, q, r) makes, together. -/
def partsF (a b c d e f g h i x y z p q r : Int) : Int :=
  w64 (w64 (w64 (w64 (0 + tvF p q r d e f g h i x y z) + tvF a b c p q r g h i x y z) + tvF a b c d e f p q r x y z) + tvF a b c d e f g h i p q r)
def hasF (a b c d e f g h i x y z p q r : Int) : Bool := decide (partsF a b c d e f g h i x y z p q r = tvF a b c d e f g h i x y z)
def rel (f : Int → Int → Int → Int → Int → Int → Int → Int → Int → Int → Int → Int → Int) (a b c d e f' g h i x y z p q r : Int) : Int :=
  f (plusF d (-1) a) (plusF e (-1) b) (plusF f' (-1) c) (plusF g (-1) a) (plusF h (-1) b) (plusF i (-1) c) (plusF x (-1) a) (plusF y (-1) b) (plusF z (-1) c) (plusF p (-1) a) (plusF q (-1) b) (plusF r (-1) c)
def insF (a b c d e f g h i x y z p q r : Int) : Bool :=
  decide (rel co0 a b c d e f g h i x y z p q r ≥ 0) && decide (rel co1 a b c d e f g h i x y z p q r ≥ 0) && decide (rel co2 a b c d e f g h i x y z p q r ≥ 0) &&
    decide (w64 (w64 (rel co0 a b c d e f g h i x y z p q r + rel co1 a b c d e f g h i x y z p q r) + rel co2 a b c d e f g h i x y z p q r) ≤ tvF a b c d e f g h i x y z)

theorem vol_parts (a b c d e f g h i p q r : Int) :
    volP (a - p) (b - q) (c - r) (d - p) (e - q) (f - r) (g - p) (h - q) (i - r) = volP a b c d e f g h i - volP p q r d e f g h i - volP a b c p q r g h i - volP a b c d e f p q r := by
  unfold volP; grind

theorem abs_parts (D v1 v2 v3 : Int) (s : Int) (hs : s = if D < 0 then -1 else 1) :
    ((D - v1 - v2 - v3).natAbs : Int) + v1.natAbs + v2.natAbs + v3.natAbs = D.natAbs ↔ (s * v1 ≥ 0 ∧ s * v2 ≥ 0 ∧ s * v3 ≥ 0) ∧ s * v1 + s * v2 + s * v3 ≤ D.natAbs := by
  subst hs
  split
  · simp only [Int.neg_mul, Int.one_mul]; omega
  · simp only [Int.one_mul]; omega

theorem has_ins {a b c d e f g h i x y z p q r : Int} (k : TetOk a b c d e f g h i x y z) (hp : isSpF p q r = true) : hasF a b c d e f g h i x y z p q r = insF a b c d e f g h i x y z p q r := by
  have t := tv_eq k
  have t0 := tv_eq (a := p) (b := q) (c := r) ⟨hp, k.s1, k.s2, k.s3⟩
  have t1 := tv_eq (d := p) (e := q) (f := r) ⟨k.s0, hp, k.s2, k.s3⟩
  have t2 := tv_eq (g := p) (h := q) (i := r) ⟨k.s0, k.s1, hp, k.s3⟩
  have t3 := tv_eq (x := p) (y := q) (z := r) ⟨k.s0, k.s1, k.s2, hp⟩
  obtain ⟨ha, hb, hc⟩ := isSpF_iff.1 k.s0
  obtain ⟨hd, he, hf⟩ := isSpF_iff.1 k.s1
  obtain ⟨hg, hh, hi⟩ := isSpF_iff.1 k.s2
  obtain ⟨hx, hy, hz⟩ := isSpF_iff.1 k.s3
  obtain ⟨hp0, hq0, hr0⟩ := isSpF_iff.1 hp
  have e0 : volP (d - p) (e - q) (f - r) (g - p) (h - q) (i - r) (x - p) (y - q) (z - r) =
      volP (d - a) (e - b) (f - c) (g - a) (h - b) (i - c) (x - a) (y - b) (z - c) - volP (p - a) (q - b) (r - c) (g - a) (h - b) (i - c) (x - a) (y - b) (z - c)
        - volP (d - a) (e - b) (f - c) (p - a) (q - b) (r - c) (x - a) (y - b) (z - c) - volP (d - a) (e - b) (f - c) (g - a) (h - b) (i - c) (p - a) (q - b) (r - c) := by
    rw [← vol_parts]
    congr 1 <;> omega
  rw [e0] at t0
  have vD := volF_pt (plus_pt hd ha).2 (plus_pt he hb).2 (plus_pt hf hc).2 (plus_pt hg ha).2 (plus_pt hh hb).2 (plus_pt hi hc).2 (plus_pt hx ha).2 (plus_pt hy hb).2 (plus_pt hz hc).2
  have v1 := volF_pt (plus_pt hp0 ha).2 (plus_pt hq0 hb).2 (plus_pt hr0 hc).2 (plus_pt hg ha).2 (plus_pt hh hb).2 (plus_pt hi hc).2 (plus_pt hx ha).2 (plus_pt hy hb).2 (plus_pt hz hc).2
  have v2 := volF_pt (plus_pt hd ha).2 (plus_pt he hb).2 (plus_pt hf hc).2 (plus_pt hp0 ha).2 (plus_pt hq0 hb).2 (plus_pt hr0 hc).2 (plus_pt hx ha).2 (plus_pt hy hb).2 (plus_pt hz hc).2
  have v3 := volF_pt (plus_pt hd ha).2 (plus_pt he hb).2 (plus_pt hf hc).2 (plus_pt hg ha).2 (plus_pt hh hb).2 (plus_pt hi hc).2 (plus_pt hp0 ha).2 (plus_pt hq0 hb).2 (plus_pt hr0 hc).2
  unfold hasF insF partsF rel co0 co1 co2
  rw [t.1, t0.1, t1.1, t2.1, t3.1, (plus_pt hd ha).1, (plus_pt he hb).1, (plus_pt hf hc).1, (plus_pt hg ha).1, (plus_pt hh hb).1, (plus_pt hi hc).1, (plus_pt hx ha).1, (plus_pt hy hb).1, (plus_pt hz hc).1,
    (plus_pt hp0 ha).1, (plus_pt hq0 hb).1, (plus_pt hr0 hc).1, vD.1, v1.1, v2.1, v3.1]
  have b0 := t0.2; have bD := vD.2; have b1 := v1.2; have b2 := v2.2; have b3 := v3.2
  clear t t0 t1 t2 t3 e0 vD v1 v2 v3
  generalize volP (d - a) (e - b) (f - c) (g - a) (h - b) (i - c) (x - a) (y - b) (z - c) = D at *
  generalize volP (p - a) (q - b) (r - c) (g - a) (h - b) (i - c) (x - a) (y - b) (z - c) = A1 at *
  generalize volP (d - a) (e - b) (f - c) (p - a) (q - b) (r - c) (x - a) (y - b) (z - c) = A2 at *
  generalize volP (d - a) (e - b) (f - c) (g - a) (h - b) (i - c) (p - a) (q - b) (r - c) = A3 at *
  unfold sm at b0 bD b1 b2 b3
  have key := abs_parts D A1 A2 A3 (sgF D) (by unfold sgF selF; by_cases hD : D < 0 <;> simp [hD])
  have hs : sgF D = -1 ∨ sgF D = 1 := by unfold sgF selF; by_cases hD : D < 0 <;> simp [hD]
  have c1 : w64 (sgF D * A1) = sgF D * A1 ∧ sm (sgF D * A1) 384000 := by rcases hs with hs | hs <;> rw [hs] <;> (unfold sm; rw [w64_in (by omega) (by omega)]; omega)
  have c2 : w64 (sgF D * A2) = sgF D * A2 ∧ sm (sgF D * A2) 384000 := by rcases hs with hs | hs <;> rw [hs] <;> (unfold sm; rw [w64_in (by omega) (by omega)]; omega)
  have c3 : w64 (sgF D * A3) = sgF D * A3 ∧ sm (sgF D * A3) 384000 := by rcases hs with hs | hs <;> rw [hs] <;> (unfold sm; rw [w64_in (by omega) (by omega)]; omega)
  rw [c1.1, c2.1, c3.1]
  have d1 := c1.2; have d2 := c2.2; have d3 := c3.2
  generalize sgF D * A1 = B1 at *
  generalize sgF D * A2 = B2 at *
  generalize sgF D * A3 = B3 at *
  unfold sm at d1 d2 d3
  rw [w64_in (n := B1 + B2) (by omega) (by omega), w64_in (n := B1 + B2 + B3) (by omega) (by omega)]
  rw [Int.zero_add, w64_in (n := ((D - A1 - A2 - A3).natAbs : Int)) (by omega) (by omega), w64_in (n := ((D - A1 - A2 - A3).natAbs : Int) + A1.natAbs) (by omega) (by omega),
    w64_in (n := ((D - A1 - A2 - A3).natAbs : Int) + A1.natAbs + A2.natAbs) (by omega) (by omega), w64_in (n := ((D - A1 - A2 - A3).natAbs : Int) + A1.natAbs + A2.natAbs + A3.natAbs) (by omega) (by omega)]
  rw [Bool.eq_iff_iff]
  simp only [Bool.and_eq_true, decide_eq_true_eq]
  rw [key]
  constructor
  · rintro ⟨⟨h1, h2, h3⟩, h4⟩; exact ⟨⟨⟨h1, h2⟩, h3⟩, h4⟩
  · rintro ⟨⟨⟨h1, h2⟩, h3⟩, h4⟩; exact ⟨⟨h1, h2, h3⟩, h4⟩

/-! ### Counting -/

def foldR (F : Int → Int → Int) : Nat → Int → Int → Int
  | 0, _, m => m
  | n + 1, z, m => foldR F n (z + 1) (F z m)
theorem foldR_congr {F G : Int → Int → Int} : ∀ (n : Nat) (z m : Int), (∀ k m, z ≤ k → k < z + n → F k m = G k m) → foldR F n z m = foldR G n z m
  | 0, _, _, _ => rfl
  | n + 1, z, m, h => by
    rw [foldR, foldR, h z m (by omega) (by omega)]
    exact foldR_congr n (z + 1) _ fun k m h1 h2 => h k m (by omega) (by omega)

def czF (p : Int → Int → Int → Bool) (lz hz x y m : Int) : Int := foldR (fun z m => if p x y z = true then w64 (m + 1) else m) (hz + 1 - lz).toNat lz m
def cyF (p : Int → Int → Int → Bool) (ly hy lz hz x m : Int) : Int := foldR (fun y m => czF p lz hz x y m) (hy + 1 - ly).toNat ly m
def cxF (p : Int → Int → Int → Bool) (lx hx ly hy lz hz m : Int) : Int := foldR (fun x m => cyF p ly hy lz hz x m) (hx + 1 - lx).toNat lx m

/-- The state of a loop that counts from lo to hi. -/
structure FoI (F : Int → Int → Int) (lo hi R z m : Int) : Prop where
  bl : -20 ≤ lo
  bh : hi ≤ 20
  zl : lo ≤ z
  zh : z ≤ hi + 1
  eq : foldR F (hi + 1 - z).toNat z m = R
theorem FoI.start {F : Int → Int → Int} {lo hi m : Int} (h1 : -20 ≤ lo) (h2 : hi ≤ 20) (h3 : lo ≤ hi) : FoI F lo hi (foldR F (hi + 1 - lo).toNat lo m) lo m := ⟨h1, h2, by omega, by omega, rfl⟩
theorem FoI.next {F : Int → Int → Int} {lo hi R z m m' : Int} (h : FoI F lo hi R z m) (hz : z ≤ hi) (hm : m' = F z m) : FoI F lo hi R (w64 (z + 1)) m' := by
  subst hm
  have h1 := h.bl; have h2 := h.bh; have h3 := h.zl
  rw [w64_in (by omega) (by omega)]
  refine ⟨h1, h2, by omega, by omega, ?_⟩
  rw [← h.eq, show (hi + 1 - z).toNat = (hi + 1 - (z + 1)).toNat + 1 by omega, foldR]
theorem FoI.mu {F : Int → Int → Int} {lo hi R z m : Int} (h : FoI F lo hi R z m) (hz : z ≤ hi) : (hi + 1 - w64 (z + 1)).toNat < (hi + 1 - z).toNat := by
  have h1 := h.bl; have h2 := h.bh; have h3 := h.zl
  rw [w64_in (by omega) (by omega)]; omega
theorem FoI.fin {F : Int → Int → Int} {lo hi R z m : Int} (h : FoI F lo hi R z m) (hz : ¬ z ≤ hi) : m = R := by
  have h1 := h.eq; have h3 := h.zh
  rw [show (hi + 1 - z).toNat = 0 by omega] at h1
  exact h1

theorem mini_self (a : Int) : mini a a = a := by unfold mini; split <;> rfl
theorem maxi_self (a : Int) : maxi a a = a := by unfold maxi; split <;> rfl
def lo4 (a d g x : Int) : Int := mini (mini (mini a d) g) x
def hi4 (a d g x : Int) : Int := maxi (maxi (maxi a d) g) x
theorem lohi {a d g x : Int} (h1 : sm a 20) (h2 : sm d 20) (h3 : sm g 20) (h4 : sm x 20) : -20 ≤ lo4 a d g x ∧ hi4 a d g x ≤ 20 ∧ lo4 a d g x ≤ hi4 a d g x := by
  unfold sm lo4 hi4 mini maxi at *
  split <;> split <;> split <;> split <;> split <;> split <;> omega
/-- How many spots of the smallest cuboid have the property. -/
def cntF (p : Int → Int → Int → Bool) (a b c d e f g h i x y z : Int) : Int :=
  cxF p (lo4 a d g x) (hi4 a d g x) (lo4 b e h y) (hi4 b e h y) (lo4 c f i z) (hi4 c f i z) 0
theorem TetOk.b0 {a b c d e f g h i x y z : Int} (k : TetOk a b c d e f g h i x y z) : -20 ≤ lo4 a d g x ∧ hi4 a d g x ≤ 20 ∧ lo4 a d g x ≤ hi4 a d g x :=
  lohi (isSpF_iff.1 k.s0).1 (isSpF_iff.1 k.s1).1 (isSpF_iff.1 k.s2).1 (isSpF_iff.1 k.s3).1
theorem TetOk.b1 {a b c d e f g h i x y z : Int} (k : TetOk a b c d e f g h i x y z) : -20 ≤ lo4 b e h y ∧ hi4 b e h y ≤ 20 ∧ lo4 b e h y ≤ hi4 b e h y :=
  lohi (isSpF_iff.1 k.s0).2.1 (isSpF_iff.1 k.s1).2.1 (isSpF_iff.1 k.s2).2.1 (isSpF_iff.1 k.s3).2.1
theorem TetOk.b2 {a b c d e f g h i x y z : Int} (k : TetOk a b c d e f g h i x y z) : -20 ≤ lo4 c f i z ∧ hi4 c f i z ≤ 20 ∧ lo4 c f i z ≤ hi4 c f i z :=
  lohi (isSpF_iff.1 k.s0).2.2 (isSpF_iff.1 k.s1).2.2 (isSpF_iff.1 k.s2).2.2 (isSpF_iff.1 k.s3).2.2
theorem cnt_same {a b c d e f g h i x y z : Int} (k : TetOk a b c d e f g h i x y z) : cntF (hasF a b c d e f g h i x y z) a b c d e f g h i x y z = cntF (insF a b c d e f g h i x y z) a b c d e f g h i x y z := by
  have h0 := k.b0; have h1 := k.b1; have h2 := k.b2
  unfold cntF cxF
  refine foldR_congr _ _ _ fun u m hu1 hu2 => ?_
  unfold cyF
  refine foldR_congr _ _ _ fun v m hv1 hv2 => ?_
  unfold czF
  refine foldR_congr _ _ _ fun w m hw1 hw2 => ?_
  rw [has_ins k (isSpF_iff.2 (by unfold sm; omega))]
def isTetF (a b c d e f g h i x y z : Int) : Bool := isSpF a b c && isSpF d e f && isSpF g h i && isSpF x y z && !decide (tvF a b c d e f g h i x y z = 0)
theorem tet_ok {a b c d e f g h i x y z : Int} (h1 : isTetF a b c d e f g h i x y z = true) : TetOk a b c d e f g h i x y z := by
  simp only [isTetF, Bool.and_eq_true] at h1
  exact ⟨h1.1.1.1.1, h1.1.1.1.2, h1.1.1.2, h1.1.2⟩

end Go.Ev
end

section
/-
  Draws of points, matrices and corners: what is told of them, so that the draws' loops end. Conditions: none.
-/
set_option linter.unusedVariables false
set_option linter.unusedSimpArgs false
namespace Go.Ev
open Go.RowKit

theorem draw_sm {m x y : Int} (hx : Below1 (w64 (w64 (2 * m) + 1)) x) (hy : Below1 (w64 (w64 (2 * m) + 1)) y) : 1 ≤ m → m ≤ 900 → sm (w64 (x - m)) 900 ∧ sm (w64 (y - m)) 900 := by
  intro h1 h2
  unfold Below1 at hx hy
  rw [w64_in (n := 2 * m) (by omega) (by omega), w64_in (n := 2 * m + 1) (by omega) (by omega)] at hx hy
  have := hx (by omega); have := hy (by omega)
  unfold sm
  rw [w64_in (n := x - m) (by omega) (by omega), w64_in (n := y - m) (by omega) (by omega)]
  omega
theorem nz_a {x y : Int} (h : decide (x = 0) = false) : ¬ (x = 0 ∧ y = 0) := fun h1 => of_decide_eq_false h h1.1
theorem nz_b {x y : Int} (h : decide (y = 0) = false) : ¬ (x = 0 ∧ y = 0) := fun h1 => of_decide_eq_false h h1.2
theorem part_g {a b : Int} (h : sm a 900 ∧ sm b 900) : gcdF a b = (Int.gcd a b : Int) := by
  obtain ⟨h1, h2⟩ := h
  unfold sm at h1 h2
  exact gcdF_eq (by omega) (by omega)
theorem part_nz {a b : Int} (h : sm a 900 ∧ sm b 900) (h0 : ¬ (a = 0 ∧ b = 0)) : decide (gcdF a b = 0) = false := by
  obtain ⟨h1, h2⟩ := h
  unfold sm at h1 h2
  exact decide_eq_false fun he => h0 ((gcdF_zero (by omega) (by omega)).1 he)
/-- A point that is not none, with small numbers. -/
structure Prm (x y : Int) : Prop where
  sx : sm x 900
  sy : sm y 900
  nz : ¬ (x = 0 ∧ y = 0)
theorem prm_10 : Prm 1 0 := ⟨by unfold sm; omega, by unfold sm; omega, by omega⟩
theorem part_ok {a b : Int} (h : sm a 900 ∧ sm b 900) (h0 : ¬ (a = 0 ∧ b = 0)) : Prm (w64 (a.tdiv (gcdF a b))) (w64 (b.tdiv (gcdF a b))) := by
  rw [part_g h]
  obtain ⟨h1, h2⟩ := h
  unfold sm at h1 h2
  have hg : ((Int.gcd a b : Nat) : Int) ≠ 0 := by
    intro he
    have : Int.gcd a b = 0 := by omega
    exact h0 (Int.gcd_eq_zero_iff.1 this)
  have e1 : ((Int.gcd a b : Nat) : Int) ∣ a := Int.gcd_dvd_left ..
  have e2 : ((Int.gcd a b : Nat) : Int) ∣ b := Int.gcd_dvd_right ..
  generalize ((Int.gcd a b : Nat) : Int) = g at *
  obtain ⟨p, rfl⟩ := e1
  obtain ⟨q, rfl⟩ := e2
  rw [Int.mul_tdiv_cancel_left _ hg, Int.mul_tdiv_cancel_left _ hg]
  have bp : p.natAbs ≤ (g * p).natAbs := by
    rw [Int.natAbs_mul]
    have : 1 * p.natAbs ≤ g.natAbs * p.natAbs := Nat.mul_le_mul_right _ (by omega)
    omega
  have bq : q.natAbs ≤ (g * q).natAbs := by
    rw [Int.natAbs_mul]
    have : 1 * q.natAbs ≤ g.natAbs * q.natAbs := Nat.mul_le_mul_right _ (by omega)
    omega
  rw [w64_in (by omega) (by omega), w64_in (by omega) (by omega)]
  refine ⟨by unfold sm; omega, by unfold sm; omega, fun h => h0 ?_⟩
  rw [h.1, h.2]; simp
theorem most_in {y : Int} (h : y ∈ [3, 5, 9, 30, 900]) : 1 ≤ y ∧ y ≤ 900 := by
  simp only [List.mem_cons, List.not_mem_nil, or_false] at h
  omega
theorem sq_nn (a : Int) : 0 ≤ a * a := by
  rcases Int.le_total 0 a with h | h
  · exact Int.mul_nonneg h h
  · exact Int.mul_nonneg_of_nonpos_of_nonpos h h
/-- One turn makes the determinant other than 0. -/
theorem turn_nz {a b : Int} (h : Prm a b) : detF a b (w64 (0 - b)) a ≠ 0 := by
  obtain ⟨h1, h2, h3⟩ := h
  have h4 := sm_mul h1 h1 (by omega); have h5 := sm_mul h2 h2 (by omega)
  unfold sm at h1 h2 h4 h5
  rw [w64_in (n := 0 - b) (by omega) (by omega)]
  unfold detF
  have e : b * (0 - b) = -(b * b) := by rw [Int.mul_sub]; omega
  rw [e, w64_in (n := a * a) (by omega) (by omega), w64_in (n := -(b * b)) (by omega) (by omega), w64_in (by omega) (by omega)]
  have p1 : 0 ≤ a * a := sq_nn a
  have p2 : 0 ≤ b * b := sq_nn b
  intro he
  have q1 : a * a = 0 := by omega
  have q2 : b * b = 0 := by omega
  exact h3 ⟨by rcases Int.mul_eq_zero.1 q1 with h | h <;> exact h, by rcases Int.mul_eq_zero.1 q2 with h | h <;> exact h⟩
def detMu (a b c d : Int) : Nat := if detF a b c d = 0 then 1 else 0
theorem turn_mu {a b c d : Int} (h : Prm a b) (h0 : decide (detF a b c d = 0) = true) : detMu a b (w64 (0 - b)) a < detMu a b c d := by
  unfold detMu
  rw [if_pos (of_decide_eq_true h0), if_neg (turn_nz h)]
  omega
/-- A sine and a cosine that may be none. -/
structure ScI (s c : Int) : Prop where
  s1 : 1 ≤ s
  s2 : s ≤ 40
  c1 : 1 ≤ c
  c2 : c ≤ s
theorem ScI.start {x : Int} (h : Below1 40 x) : ScI (w64 (1 + x)) 1 := by
  have := h (by omega)
  rw [w64_in (by omega) (by omega)]
  exact ⟨by omega, by omega, by omega, by omega⟩
theorem ScI.nz {s c : Int} (h : ScI s c) : decide (s = 0) = false := decide_eq_false (by have := h.s1; omega)
theorem ScI.next {s c : Int} (h : ScI s c) : ScI s (w64 (c.tmod s + 1)) := by
  obtain ⟨h1, h2, h3, h4⟩ := h
  rw [tmod_pos (by omega)]
  have := Int.emod_nonneg c (show s ≠ 0 by omega)
  have := Int.emod_lt_of_pos c (show 0 < s by omega)
  rw [w64_in (by omega) (by omega)]
  exact ⟨by omega, by omega, by omega, by omega⟩
theorem ScI.down {s c : Int} (h : ScI s c) (hg : decide (gcdF s c = 1) = false) : ScI s (w64 (c - 1)) ∧ (w64 (c - 1)).toNat < c.toNat := by
  obtain ⟨h1, h2, h3, h4⟩ := h
  have : c ≠ 1 := by
    rintro rfl
    refine of_decide_eq_false hg ?_
    rw [gcdF_eq (by omega) (by omega), Int.gcd_one]; rfl
  rw [w64_in (by omega) (by omega)]
  exact ⟨⟨by omega, by omega, by omega, by omega⟩, by omega⟩
theorem cnt_down {n : Int} {B : Int} (hB : B ≤ 1000) (h : 0 ≤ n ∧ n ≤ B) (h0 : decide (n > 0) = true) : (0 ≤ w64 (n - 1) ∧ w64 (n - 1) ≤ B) ∧ (w64 (n - 1)).toNat < n.toNat := by
  have := of_decide_eq_true h0
  rw [w64_in (by omega) (by omega)]
  omega
theorem two_of {x : Int} (h : Below1 2 x) : x = 0 ∨ x = 1 := by
  have := h (by omega)
  omega

end Go.Ev
end

section
/-
  Contracts of functions of the program (printed by a program of this work; Lean checks each).
  Conditions: as each contract states.
-/
namespace Go.Proofs.YtlkbfpklhncfbaaGreatDoor
open Go.Ev Go.RowKit
set_option maxRecDepth 100000
set_option linter.unusedVariables false
set_option linter.unusedSimpArgs false

set_option maxHeartbeats 1000000 in
theorem c_PickM_L {zs : List Int} {off n c : Nat} {o h : Int} {xs : List Int} (hz : n ≤ zs.length) (hb : ∀ z ∈ zs, IsByte z) (hn : n ≤ 4096) (ha : SrcAt n o) (hl : 1 ≤ xs.length) (hl2 : xs.length ≤ 100) : CallOK Tryz.prog n_spec_l01Pick [.pointer (some ⟨1, 0, none⟩), .slice (some ⟨2, 0, none⟩) xs.length xs.length] [(away off (bl zs), none), ([.slice (some ⟨0, off, none⟩) n c, ii o, wv h], some t_spec_l01Source), (il xs, none)] (fun v m_ => ∃ y o2 h2, y ∈ xs ∧ SrcAt n o2 ∧ v = ii y ∧ m_ = [(away off (bl zs), none), ([.slice (some ⟨0, off, none⟩) n c, ii o2, wv h2], some t_spec_l01Source), (il xs, none)]) := by
  refine callOK_ofF good fn_spec_l01Pick ?_
  conv => whnf
  all_goals (repeat' first
    | (refine CallOK.useD (c_Next_L hz hb hn (by assumption)) [0, 1] rfl rfl rfl ⟨⟨⟨_, rfl, .lit (away_conc (bl_plain _) _).symm (fun _ h_ => by cases h_) (away_ok (bl_plain _) _)⟩⟩, ⟨⟨_, rfl, .lit rfl (fun _ h_ => h_) (fun v hv => okB0_spec (allL_spec rfl v hv))⟩⟩, trivial⟩ (fun v_ mem_ hR => ?_); obtain ⟨x_, o_, h_, hx_, ha_, rfl, rfl⟩ := hR; refine ⟨rfl, ii x_, fun _ => rfl, ?_⟩; (conv => whnf); refine mapK_eval (cs' := [.slice (some ⟨0, off, none⟩) n c, ii o_, wv h_]) rfl ?_; conv => whnf)
    | (refine br_in (i := x_) (n := xs.length) ?_ ?_ ?_; (focus (have := hx_ (by omega); omega)); (focus (have := hx_ (by omega); omega)); conv => whnf)
    | (refine force_eq (take_il0 (xs := xs) (i := x_.toNat) ?_ ?_) ?_; (focus (simp only [Nat.mul_one, Nat.zero_add]; done)); (focus (have := hx_ (by omega); omega)); conv => whnf)
    | (show OutK _ _ _ _; have hy_ : xs.getD x_.toNat 0 ∈ xs := (getD_mem (show x_.toNat < xs.length from (by have := hx_ (by omega); omega))); (exact out_forget [] ⟨_, _, _, hy_, ha_, rfl, rfl⟩ rfl (okB2_spec rfl) ⟨⟨⟨_, rfl, .lit (away_conc (bl_plain _) _).symm rfl (away_ok (bl_plain _) _)⟩⟩, ⟨⟨_, rfl, .lit rfl rfl (fun v hv => okB0_spec (allL_spec rfl v hv))⟩⟩, ⟨⟨_, rfl, .plain rfl rfl (il_plain _)⟩⟩, trivial⟩ rfl rfl))
    | (refine StoreK.mk rfl ?_; conv => whnf)
    | exact join_same
    | exact (by assumption : (_ : Bool) = (_ : Bool))
    | (refine br_true (by assumption) ?_; conv => whnf)
    | (refine br_false (by assumption) ?_; conv => whnf)
    | (refine br_not ?_; conv => whnf)
    | (refine br_code ?_; conv => whnf)
    | (with_reducible refine br_and ?_; conv => whnf)
    | (with_reducible refine br_or ?_; conv => whnf)
    | (refine br_eq2 ?_; conv => whnf)
    | (refine draw_auto (by decide +kernel) ?_; conv => whnf)
    | (refine draw_asg (by decide +kernel) ?_; conv => whnf)
    | (refine draw_st (by decide +kernel) ?_; conv => whnf)
    | (refine draw_call (by decide +kernel) ?_; conv => whnf)
    | (refine enter_same (loop_n 12 ?_); conv => whnf)
    | (refine next_same ?_; conv => whnf)
    | (refine mapK_row (by assumption) ?_; conv => whnf)
    | (refine mapK_plain (Plain.of rfl) ?_; conv => whnf)
    | (refine mapK_lit ?_; conv => whnf)
    | (refine br_split (fun _ => ?_) (fun _ => ?_) <;> conv => whnf)
    | exact (rfl : (_ : Value) = _)
    | (simp only [*]; exact (rfl : (_ : Value) = _))
    | (simp [*]; done))

set_option maxHeartbeats 1000000 in
theorem c_DrawPoint_L {zs : List Int} {off n c : Nat} {o h m : Int} (hz : n ≤ zs.length) (hb : ∀ z ∈ zs, IsByte z) (hn : n ≤ 4096) (ha : SrcAt n o) : CallOK Tryz.prog n_spec_l01DrawPoint [.pointer (some ⟨1, 0, none⟩), ii m] [(away off (bl zs), none), ([.slice (some ⟨0, off, none⟩) n c, ii o, wv h], some t_spec_l01Source)] (fun v m_ => ∃ x y o2 h2, (1 ≤ m → m ≤ 900 → sm x 900 ∧ sm y 900) ∧ SrcAt n o2 ∧ v = pt x y ∧ m_ = [(away off (bl zs), none), ([.slice (some ⟨0, off, none⟩) n c, ii o2, wv h2], some t_spec_l01Source)]) := by
  refine callOK_ofF good fn_spec_l01DrawPoint ?_
  conv => whnf
  all_goals (repeat' first
    | (refine CallOK.useD (c_Next_L hz hb hn (by assumption)) [0, 1] rfl rfl rfl ⟨⟨⟨_, rfl, .lit (away_conc (bl_plain _) _).symm (fun _ h_ => by cases h_) (away_ok (bl_plain _) _)⟩⟩, ⟨⟨_, rfl, .lit rfl (fun _ h_ => h_) (fun v hv => okB0_spec (allL_spec rfl v hv))⟩⟩, trivial⟩ (fun v_ mem_ hR => ?_); obtain ⟨x1_, o_, h_, hx1_, ha_, rfl, rfl⟩ := hR; refine ⟨rfl, ii x1_, fun _ => rfl, ?_⟩; (conv => whnf); refine mapK_eval (cs' := [.slice (some ⟨0, off, none⟩) n c, ii o_, wv h_]) rfl ?_; conv => whnf)
    | (show OutK _ _ _ _; (exact out_forget [] ⟨_, _, _, _, draw_sm (by assumption) (by assumption), ha_, rfl, rfl⟩ rfl (okB2_spec rfl) ⟨⟨⟨_, rfl, .lit (away_conc (bl_plain _) _).symm rfl (away_ok (bl_plain _) _)⟩⟩, ⟨⟨_, rfl, .lit rfl rfl (fun v hv => okB0_spec (allL_spec rfl v hv))⟩⟩, trivial⟩ rfl rfl))
    | (refine StoreK.mk rfl ?_; conv => whnf)
    | exact join_same
    | exact (by assumption : (_ : Bool) = (_ : Bool))
    | (refine br_true (by assumption) ?_; conv => whnf)
    | (refine br_false (by assumption) ?_; conv => whnf)
    | (refine br_not ?_; conv => whnf)
    | (refine br_code ?_; conv => whnf)
    | (with_reducible refine br_and ?_; conv => whnf)
    | (with_reducible refine br_or ?_; conv => whnf)
    | (refine br_eq2 ?_; conv => whnf)
    | (refine draw_auto (by decide +kernel) ?_; conv => whnf)
    | (refine draw_asg (by decide +kernel) ?_; conv => whnf)
    | (refine draw_st (by decide +kernel) ?_; conv => whnf)
    | (refine draw_call (by decide +kernel) ?_; conv => whnf)
    | (refine enter_same (loop_n 12 ?_); conv => whnf)
    | (refine next_same ?_; conv => whnf)
    | (refine mapK_row (by assumption) ?_; conv => whnf)
    | (refine mapK_plain (Plain.of rfl) ?_; conv => whnf)
    | (refine mapK_lit ?_; conv => whnf)
    | (refine br_split (fun _ => ?_) (fun _ => ?_) <;> conv => whnf)
    | exact (rfl : (_ : Value) = _)
    | (simp only [*]; exact (rfl : (_ : Value) = _))
    | (simp [*]; done))

set_option maxHeartbeats 1000000 in
theorem c_PickM_N  {o h : Int} {xs : List Int}  (ha : SrcAt 0 o) (hl : 1 ≤ xs.length) (hl2 : xs.length ≤ 100) : CallOK Tryz.prog n_spec_l01Pick [.pointer (some ⟨0, 0, none⟩), .slice (some ⟨1, 0, none⟩) xs.length xs.length] [([.slice none 0 0, ii o, wv h], some t_spec_l01Source), (il xs, none)] (fun v m_ => ∃ y o2 h2, y ∈ xs ∧ SrcAt 0 o2 ∧ v = ii y ∧ m_ = [([.slice none 0 0, ii o2, wv h2], some t_spec_l01Source), (il xs, none)]) := by
  refine callOK_ofF good fn_spec_l01Pick ?_
  conv => whnf
  all_goals (repeat' first
    | (refine CallOK.useD (c_Next_N (by assumption)) [0] rfl rfl rfl ⟨⟨⟨_, rfl, .lit rfl (fun _ h_ => h_) (fun v hv => okB0_spec (allL_spec rfl v hv))⟩⟩, trivial⟩ (fun v_ mem_ hR => ?_); obtain ⟨x_, o_, h_, hx_, ha_, rfl, rfl⟩ := hR; refine ⟨rfl, ii x_, fun _ => rfl, ?_⟩; (conv => whnf); refine mapK_eval (cs' := [.slice none 0 0, ii o_, wv h_]) rfl ?_; conv => whnf)
    | (refine br_in (i := x_) (n := xs.length) ?_ ?_ ?_; (focus (have := hx_ (by omega); omega)); (focus (have := hx_ (by omega); omega)); conv => whnf)
    | (refine force_eq (take_il0 (xs := xs) (i := x_.toNat) ?_ ?_) ?_; (focus (simp only [Nat.mul_one, Nat.zero_add]; done)); (focus (have := hx_ (by omega); omega)); conv => whnf)
    | (show OutK _ _ _ _; have hy_ : xs.getD x_.toNat 0 ∈ xs := (getD_mem (show x_.toNat < xs.length from (by have := hx_ (by omega); omega))); (exact out_forget [] ⟨_, _, _, hy_, ha_, rfl, rfl⟩ rfl (okB2_spec rfl) ⟨⟨⟨_, rfl, .lit rfl rfl (fun v hv => okB0_spec (allL_spec rfl v hv))⟩⟩, ⟨⟨_, rfl, .plain rfl rfl (il_plain _)⟩⟩, trivial⟩ rfl rfl))
    | (refine StoreK.mk rfl ?_; conv => whnf)
    | exact join_same
    | exact (by assumption : (_ : Bool) = (_ : Bool))
    | (refine br_true (by assumption) ?_; conv => whnf)
    | (refine br_false (by assumption) ?_; conv => whnf)
    | (refine br_not ?_; conv => whnf)
    | (refine br_code ?_; conv => whnf)
    | (with_reducible refine br_and ?_; conv => whnf)
    | (with_reducible refine br_or ?_; conv => whnf)
    | (refine br_eq2 ?_; conv => whnf)
    | (refine draw_auto (by decide +kernel) ?_; conv => whnf)
    | (refine draw_asg (by decide +kernel) ?_; conv => whnf)
    | (refine draw_st (by decide +kernel) ?_; conv => whnf)
    | (refine draw_call (by decide +kernel) ?_; conv => whnf)
    | (refine enter_same (loop_n 12 ?_); conv => whnf)
    | (refine next_same ?_; conv => whnf)
    | (refine mapK_row (by assumption) ?_; conv => whnf)
    | (refine mapK_plain (Plain.of rfl) ?_; conv => whnf)
    | (refine mapK_lit ?_; conv => whnf)
    | (refine br_split (fun _ => ?_) (fun _ => ?_) <;> conv => whnf)
    | exact (rfl : (_ : Value) = _)
    | (simp only [*]; exact (rfl : (_ : Value) = _))
    | (simp [*]; done))

set_option maxHeartbeats 1000000 in
theorem c_DrawPoint_N  {o h m : Int}  (ha : SrcAt 0 o) : CallOK Tryz.prog n_spec_l01DrawPoint [.pointer (some ⟨0, 0, none⟩), ii m] [([.slice none 0 0, ii o, wv h], some t_spec_l01Source)] (fun v m_ => ∃ x y o2 h2, (1 ≤ m → m ≤ 900 → sm x 900 ∧ sm y 900) ∧ SrcAt 0 o2 ∧ v = pt x y ∧ m_ = [([.slice none 0 0, ii o2, wv h2], some t_spec_l01Source)]) := by
  refine callOK_ofF good fn_spec_l01DrawPoint ?_
  conv => whnf
  all_goals (repeat' first
    | (refine CallOK.useD (c_Next_N (by assumption)) [0] rfl rfl rfl ⟨⟨⟨_, rfl, .lit rfl (fun _ h_ => h_) (fun v hv => okB0_spec (allL_spec rfl v hv))⟩⟩, trivial⟩ (fun v_ mem_ hR => ?_); obtain ⟨x1_, o_, h_, hx1_, ha_, rfl, rfl⟩ := hR; refine ⟨rfl, ii x1_, fun _ => rfl, ?_⟩; (conv => whnf); refine mapK_eval (cs' := [.slice none 0 0, ii o_, wv h_]) rfl ?_; conv => whnf)
    | (show OutK _ _ _ _; (exact out_forget [] ⟨_, _, _, _, draw_sm (by assumption) (by assumption), ha_, rfl, rfl⟩ rfl (okB2_spec rfl) ⟨⟨⟨_, rfl, .lit rfl rfl (fun v hv => okB0_spec (allL_spec rfl v hv))⟩⟩, trivial⟩ rfl rfl))
    | (refine StoreK.mk rfl ?_; conv => whnf)
    | exact join_same
    | exact (by assumption : (_ : Bool) = (_ : Bool))
    | (refine br_true (by assumption) ?_; conv => whnf)
    | (refine br_false (by assumption) ?_; conv => whnf)
    | (refine br_not ?_; conv => whnf)
    | (refine br_code ?_; conv => whnf)
    | (with_reducible refine br_and ?_; conv => whnf)
    | (with_reducible refine br_or ?_; conv => whnf)
    | (refine br_eq2 ?_; conv => whnf)
    | (refine draw_auto (by decide +kernel) ?_; conv => whnf)
    | (refine draw_asg (by decide +kernel) ?_; conv => whnf)
    | (refine draw_st (by decide +kernel) ?_; conv => whnf)
    | (refine draw_call (by decide +kernel) ?_; conv => whnf)
    | (refine enter_same (loop_n 12 ?_); conv => whnf)
    | (refine next_same ?_; conv => whnf)
    | (refine mapK_row (by assumption) ?_; conv => whnf)
    | (refine mapK_plain (Plain.of rfl) ?_; conv => whnf)
    | (refine mapK_lit ?_; conv => whnf)
    | (refine br_split (fun _ => ?_) (fun _ => ?_) <;> conv => whnf)
    | exact (rfl : (_ : Value) = _)
    | (simp only [*]; exact (rfl : (_ : Value) = _))
    | (simp [*]; done))

theorem c_Size_L {zs : List Int} {off n c : Nat} {o h : Int} (hz : n ≤ zs.length) (hb : ∀ z ∈ zs, IsByte z) (hn : n ≤ 4096) (ha : SrcAt n o) : CallOK Tryz.prog n_spec_l01Size [.pointer (some ⟨1, 0, none⟩)] [(away off (bl zs), none), ([.slice (some ⟨0, off, none⟩) n c, ii o, wv h], some t_spec_l01Source)] (fun v m_ => ∃ y o2 h2, SrcAt n o2 ∧ v = ii y ∧ m_ = [(away off (bl zs), none), ([.slice (some ⟨0, off, none⟩) n c, ii o2, wv h2], some t_spec_l01Source)]) := by
  refine callOK_ofF good fn_spec_l01Size ?_
  conv => whnf
  all_goals (repeat' first
    | (refine CallOK.useD (c_Pick_L (xs := [3, 6, 12, 100, 1000, 1000000]) hz hb hn (by assumption) (by decide) (by decide)) [0, 1, 2] rfl rfl rfl ⟨⟨⟨_, rfl, .lit (away_conc (bl_plain _) _).symm (fun _ h_ => by cases h_) (away_ok (bl_plain _) _)⟩⟩, ⟨⟨_, rfl, .lit rfl (fun _ h_ => h_) (fun v hv => okB0_spec (allL_spec rfl v hv))⟩⟩, ⟨⟨_, rfl, .plain rfl (fun _ h_ => by cases h_) (il_plain _)⟩⟩, trivial⟩ (fun v_ mem_ hR => ?_); obtain ⟨y_, o_, h_, ha_, rfl, rfl⟩ := hR; refine ⟨rfl, ii y_, fun _ => rfl, ?_⟩; (conv => whnf); refine mapK_eval (cs' := [.slice (some ⟨0, off, none⟩) n c, ii o_, wv h_]) rfl ?_; conv => whnf)
    | (show OutK _ _ _ _; (exact out_forget [] ⟨_, _, _, ha_, rfl, rfl⟩ rfl (okB2_spec rfl) ⟨⟨⟨_, rfl, .lit (away_conc (bl_plain _) _).symm rfl (away_ok (bl_plain _) _)⟩⟩, ⟨⟨_, rfl, .lit rfl rfl (fun v hv => okB0_spec (allL_spec rfl v hv))⟩⟩, trivial⟩ rfl rfl))
    | (refine StoreK.mk rfl ?_; conv => whnf)
    | exact join_same
    | exact (by assumption : (_ : Bool) = (_ : Bool))
    | (refine br_true (by assumption) ?_; conv => whnf)
    | (refine br_false (by assumption) ?_; conv => whnf)
    | (refine br_not ?_; conv => whnf)
    | (refine br_code ?_; conv => whnf)
    | (with_reducible refine br_and ?_; conv => whnf)
    | (with_reducible refine br_or ?_; conv => whnf)
    | (refine br_eq2 ?_; conv => whnf)
    | (refine draw_auto (by decide +kernel) ?_; conv => whnf)
    | (refine draw_asg (by decide +kernel) ?_; conv => whnf)
    | (refine draw_st (by decide +kernel) ?_; conv => whnf)
    | (refine draw_call (by decide +kernel) ?_; conv => whnf)
    | (refine enter_same (loop_n 12 ?_); conv => whnf)
    | (refine next_same ?_; conv => whnf)
    | (refine mapK_row (by assumption) ?_; conv => whnf)
    | (refine mapK_plain (Plain.of rfl) ?_; conv => whnf)
    | (refine mapK_lit ?_; conv => whnf)
    | (refine br_split (fun _ => ?_) (fun _ => ?_) <;> conv => whnf)
    | exact (rfl : (_ : Value) = _)
    | (simp only [*]; exact (rfl : (_ : Value) = _))
    | (simp [*]; done))

set_option maxHeartbeats 1000000 in
theorem c_DrawUnit_L {zs : List Int} {off n c : Nat} {o h : Int} (hz : n ≤ zs.length) (hb : ∀ z ∈ zs, IsByte z) (hn : n ≤ 4096) (ha : SrcAt n o) : CallOK Tryz.prog n_spec_l01DrawUnit [.pointer (some ⟨1, 0, none⟩)] [(away off (bl zs), none), ([.slice (some ⟨0, off, none⟩) n c, ii o, wv h], some t_spec_l01Source)] (fun v m_ => ∃ a1 a2 a3 a4 o2 h2, SrcAt n o2 ∧ v = q4 a1 a2 a3 a4 ∧ m_ = [(away off (bl zs), none), ([.slice (some ⟨0, off, none⟩) n c, ii o2, wv h2], some t_spec_l01Source)]) := by
  refine callOK_ofF good fn_spec_l01DrawUnit ?_
  conv => whnf
  all_goals (repeat' first
    | (refine CallOK.useD (c_Next_L hz hb hn hI1.1) [0, 1] rfl rfl rfl ⟨⟨⟨_, rfl, .lit (away_conc (bl_plain _) _).symm (fun _ h_ => by cases h_) (away_ok (bl_plain _) _)⟩⟩, ⟨⟨_, rfl, .lit rfl (fun _ h_ => h_) (fun v hv => okB0_spec (allL_spec rfl v hv))⟩⟩, trivial⟩ (fun v_ mem_ hR => ?_); obtain ⟨x_, o_, h_, hx_, ha_, rfl, rfl⟩ := hR; refine ⟨rfl, ii x_, fun _ => rfl, ?_⟩; (conv => whnf); refine mapK_eval (cs' := [.slice (some ⟨0, off, none⟩) n c, ii o_, wv h_]) rfl ?_; conv => whnf)
    | (refine CallOK.useD (c_Next_L hz hb hn (by assumption)) [0, 1] rfl rfl rfl ⟨⟨⟨_, rfl, .lit (away_conc (bl_plain _) _).symm (fun _ h_ => by cases h_) (away_ok (bl_plain _) _)⟩⟩, ⟨⟨_, rfl, .lit rfl (fun _ h_ => h_) (fun v hv => okB0_spec (allL_spec rfl v hv))⟩⟩, trivial⟩ (fun v_ mem_ hR => ?_); obtain ⟨x_, o_, h_, hx_, ha_, rfl, rfl⟩ := hR; refine ⟨rfl, ii x_, fun _ => rfl, ?_⟩; (conv => whnf); refine mapK_eval (cs' := [.slice (some ⟨0, off, none⟩) n c, ii o_, wv h_]) rfl ?_; conv => whnf)
    | (refine enter_forget [2, 3] (loop_rec (fun (s : Int × Int × Int × Int × Int × Int × Int) => match s with | (n_, o2, h2, a1, a2, a3, a4) => [.pointer (some ⟨1, 0, none⟩), wild, .pointer (some ⟨2, 0, none⟩), .pointer (some ⟨3, 0, none⟩), ii n_, wild, wild, wild, wild, wild, wild, wild, wild, wild, wild, wild, wild, wild, wild, wild, wild, wild, wild, wild, wild, wild, wild, wild, wild, wild, wild, wild, wild, wild, wild, wild, wild, wild, wild, wild, wild, wild]) (fun (s : Int × Int × Int × Int × Int × Int × Int) => match s with | (n_, o2, h2, a1, a2, a3, a4) => [(away off (bl zs), none), ([.slice (some ⟨0, off, none⟩) n c, ii o2, wv h2], some t_spec_l01Source), (ti52.zero, some 52), ([ii a1, ii a2, ii a3, ii a4], some 52)]) (fun (s : Int × Int × Int × Int × Int × Int × Int) => match s with | (n_, o2, h2, a1, a2, a3, a4) => n_.toNat) (fun (s : Int × Int × Int × Int × Int × Int × Int) => match s with | (n_, o2, h2, a1, a2, a3, a4) => SrcAt n o2 ∧ 0 ≤ n_ ∧ n_ ≤ 4) (x_, o_, h_, 1, 0, 0, 1) ⟨ha_, by have := hx_ (by omega); omega⟩ ?_) (tmR_rfl rfl rfl) ⟨⟨⟨_, rfl, .lit (away_conc (bl_plain _) _).symm rfl (away_ok (bl_plain _) _)⟩⟩, ⟨⟨_, rfl, .lit rfl rfl (fun v hv => okB0_spec (allL_spec rfl v hv))⟩⟩, ⟨⟨_, rfl, .plain rfl rfl (by first | exact Plain.of rfl | exact Row.all (by assumption))⟩⟩, ⟨⟨_, rfl, .plain rfl rfl (by first | exact Plain.of rfl | exact Row.all (by assumption))⟩⟩, trivial⟩ rfl rfl; rintro fuel_1 ⟨n_, o2, h2, a1, a2, a3, a4⟩ hI1 IH1; replace hI1 : SrcAt n o2 ∧ 0 ≤ n_ ∧ n_ ≤ 4 := hI1; conv => whnf)
    | exact next_forget [2, 3] (IH1 (w64 (n_ - 1), _, _, _, _, _, _) ⟨ha_, (cnt_down (by omega) hI1.2 (by assumption)).1⟩ (cnt_down (by omega) hI1.2 (by assumption)).2) (tmR_rfl rfl rfl) ⟨⟨⟨_, rfl, .lit (away_conc (bl_plain _) _).symm rfl (away_ok (bl_plain _) _)⟩⟩, ⟨⟨_, rfl, .lit rfl rfl (fun v hv => okB0_spec (allL_spec rfl v hv))⟩⟩, ⟨⟨_, rfl, .plain rfl rfl (by first | exact Plain.of rfl | exact Row.all (by assumption))⟩⟩, ⟨⟨_, rfl, .plain rfl rfl (by first | exact Plain.of rfl | exact Row.all (by assumption))⟩⟩, trivial⟩ rfl rfl
    | (show OutK _ _ _ _; (exact out_forget [] ⟨_, _, _, _, _, _, hI1.1, rfl, rfl⟩ rfl (okB2_spec rfl) ⟨⟨⟨_, rfl, .lit (away_conc (bl_plain _) _).symm rfl (away_ok (bl_plain _) _)⟩⟩, ⟨⟨_, rfl, .lit rfl rfl (fun v hv => okB0_spec (allL_spec rfl v hv))⟩⟩, trivial⟩ rfl rfl))
    | (refine StoreK.mk rfl ?_; conv => whnf)
    | exact join_same
    | exact (by assumption : (_ : Bool) = (_ : Bool))
    | (refine br_true (by assumption) ?_; conv => whnf)
    | (refine br_false (by assumption) ?_; conv => whnf)
    | (refine br_not ?_; conv => whnf)
    | (refine br_code ?_; conv => whnf)
    | (with_reducible refine br_and ?_; conv => whnf)
    | (with_reducible refine br_or ?_; conv => whnf)
    | (refine br_eq2 ?_; conv => whnf)
    | (refine c_spec_l01Times.call ?_; conv => whnf)
    | (refine c_spec_l01Times.quiet ?_; conv => whnf)
    | (refine draw_auto (by decide +kernel) ?_; conv => whnf)
    | (refine draw_asg (by decide +kernel) ?_; conv => whnf)
    | (refine draw_st (by decide +kernel) ?_; conv => whnf)
    | (refine draw_call (by decide +kernel) ?_; conv => whnf)
    | (refine enter_same (loop_n 12 ?_); conv => whnf)
    | (refine next_same ?_; conv => whnf)
    | (refine mapK_row (by assumption) ?_; conv => whnf)
    | (refine mapK_plain (Plain.of rfl) ?_; conv => whnf)
    | (refine mapK_lit ?_; conv => whnf)
    | (refine br_split (fun _ => ?_) (fun _ => ?_) <;> conv => whnf)
    | exact (rfl : (_ : Value) = _)
    | (simp only [*]; exact (rfl : (_ : Value) = _))
    | (simp [*]; done))

theorem c_Size_N  {o h : Int}  (ha : SrcAt 0 o) : CallOK Tryz.prog n_spec_l01Size [.pointer (some ⟨0, 0, none⟩)] [([.slice none 0 0, ii o, wv h], some t_spec_l01Source)] (fun v m_ => ∃ y o2 h2, SrcAt 0 o2 ∧ v = ii y ∧ m_ = [([.slice none 0 0, ii o2, wv h2], some t_spec_l01Source)]) := by
  refine callOK_ofF good fn_spec_l01Size ?_
  conv => whnf
  all_goals (repeat' first
    | (refine CallOK.useD (c_Pick_N (xs := [3, 6, 12, 100, 1000, 1000000]) (by assumption) (by decide) (by decide)) [0, 1] rfl rfl rfl ⟨⟨⟨_, rfl, .lit rfl (fun _ h_ => h_) (fun v hv => okB0_spec (allL_spec rfl v hv))⟩⟩, ⟨⟨_, rfl, .plain rfl (fun _ h_ => by cases h_) (il_plain _)⟩⟩, trivial⟩ (fun v_ mem_ hR => ?_); obtain ⟨y_, o_, h_, ha_, rfl, rfl⟩ := hR; refine ⟨rfl, ii y_, fun _ => rfl, ?_⟩; (conv => whnf); refine mapK_eval (cs' := [.slice none 0 0, ii o_, wv h_]) rfl ?_; conv => whnf)
    | (show OutK _ _ _ _; (exact out_forget [] ⟨_, _, _, ha_, rfl, rfl⟩ rfl (okB2_spec rfl) ⟨⟨⟨_, rfl, .lit rfl rfl (fun v hv => okB0_spec (allL_spec rfl v hv))⟩⟩, trivial⟩ rfl rfl))
    | (refine StoreK.mk rfl ?_; conv => whnf)
    | exact join_same
    | exact (by assumption : (_ : Bool) = (_ : Bool))
    | (refine br_true (by assumption) ?_; conv => whnf)
    | (refine br_false (by assumption) ?_; conv => whnf)
    | (refine br_not ?_; conv => whnf)
    | (refine br_code ?_; conv => whnf)
    | (with_reducible refine br_and ?_; conv => whnf)
    | (with_reducible refine br_or ?_; conv => whnf)
    | (refine br_eq2 ?_; conv => whnf)
    | (refine draw_auto (by decide +kernel) ?_; conv => whnf)
    | (refine draw_asg (by decide +kernel) ?_; conv => whnf)
    | (refine draw_st (by decide +kernel) ?_; conv => whnf)
    | (refine draw_call (by decide +kernel) ?_; conv => whnf)
    | (refine enter_same (loop_n 12 ?_); conv => whnf)
    | (refine next_same ?_; conv => whnf)
    | (refine mapK_row (by assumption) ?_; conv => whnf)
    | (refine mapK_plain (Plain.of rfl) ?_; conv => whnf)
    | (refine mapK_lit ?_; conv => whnf)
    | (refine br_split (fun _ => ?_) (fun _ => ?_) <;> conv => whnf)
    | exact (rfl : (_ : Value) = _)
    | (simp only [*]; exact (rfl : (_ : Value) = _))
    | (simp [*]; done))

set_option maxHeartbeats 1000000 in
theorem c_DrawUnit_N  {o h : Int}  (ha : SrcAt 0 o) : CallOK Tryz.prog n_spec_l01DrawUnit [.pointer (some ⟨0, 0, none⟩)] [([.slice none 0 0, ii o, wv h], some t_spec_l01Source)] (fun v m_ => ∃ a1 a2 a3 a4 o2 h2, SrcAt 0 o2 ∧ v = q4 a1 a2 a3 a4 ∧ m_ = [([.slice none 0 0, ii o2, wv h2], some t_spec_l01Source)]) := by
  refine callOK_ofF good fn_spec_l01DrawUnit ?_
  conv => whnf
  all_goals (repeat' first
    | (refine CallOK.useD (c_Next_N hI1.1) [0] rfl rfl rfl ⟨⟨⟨_, rfl, .lit rfl (fun _ h_ => h_) (fun v hv => okB0_spec (allL_spec rfl v hv))⟩⟩, trivial⟩ (fun v_ mem_ hR => ?_); obtain ⟨x_, o_, h_, hx_, ha_, rfl, rfl⟩ := hR; refine ⟨rfl, ii x_, fun _ => rfl, ?_⟩; (conv => whnf); refine mapK_eval (cs' := [.slice none 0 0, ii o_, wv h_]) rfl ?_; conv => whnf)
    | (refine CallOK.useD (c_Next_N (by assumption)) [0] rfl rfl rfl ⟨⟨⟨_, rfl, .lit rfl (fun _ h_ => h_) (fun v hv => okB0_spec (allL_spec rfl v hv))⟩⟩, trivial⟩ (fun v_ mem_ hR => ?_); obtain ⟨x_, o_, h_, hx_, ha_, rfl, rfl⟩ := hR; refine ⟨rfl, ii x_, fun _ => rfl, ?_⟩; (conv => whnf); refine mapK_eval (cs' := [.slice none 0 0, ii o_, wv h_]) rfl ?_; conv => whnf)
    | (refine enter_forget [1, 2] (loop_rec (fun (s : Int × Int × Int × Int × Int × Int × Int) => match s with | (n_, o2, h2, a1, a2, a3, a4) => [.pointer (some ⟨0, 0, none⟩), wild, .pointer (some ⟨1, 0, none⟩), .pointer (some ⟨2, 0, none⟩), ii n_, wild, wild, wild, wild, wild, wild, wild, wild, wild, wild, wild, wild, wild, wild, wild, wild, wild, wild, wild, wild, wild, wild, wild, wild, wild, wild, wild, wild, wild, wild, wild, wild, wild, wild, wild, wild, wild]) (fun (s : Int × Int × Int × Int × Int × Int × Int) => match s with | (n_, o2, h2, a1, a2, a3, a4) => [([.slice none 0 0, ii o2, wv h2], some t_spec_l01Source), (ti52.zero, some 52), ([ii a1, ii a2, ii a3, ii a4], some 52)]) (fun (s : Int × Int × Int × Int × Int × Int × Int) => match s with | (n_, o2, h2, a1, a2, a3, a4) => n_.toNat) (fun (s : Int × Int × Int × Int × Int × Int × Int) => match s with | (n_, o2, h2, a1, a2, a3, a4) => SrcAt 0 o2 ∧ 0 ≤ n_ ∧ n_ ≤ 4) (x_, o_, h_, 1, 0, 0, 1) ⟨ha_, by have := hx_ (by omega); omega⟩ ?_) (tmR_rfl rfl rfl) ⟨⟨⟨_, rfl, .lit rfl rfl (fun v hv => okB0_spec (allL_spec rfl v hv))⟩⟩, ⟨⟨_, rfl, .plain rfl rfl (by first | exact Plain.of rfl | exact Row.all (by assumption))⟩⟩, ⟨⟨_, rfl, .plain rfl rfl (by first | exact Plain.of rfl | exact Row.all (by assumption))⟩⟩, trivial⟩ rfl rfl; rintro fuel_1 ⟨n_, o2, h2, a1, a2, a3, a4⟩ hI1 IH1; replace hI1 : SrcAt 0 o2 ∧ 0 ≤ n_ ∧ n_ ≤ 4 := hI1; conv => whnf)
    | exact next_forget [1, 2] (IH1 (w64 (n_ - 1), _, _, _, _, _, _) ⟨ha_, (cnt_down (by omega) hI1.2 (by assumption)).1⟩ (cnt_down (by omega) hI1.2 (by assumption)).2) (tmR_rfl rfl rfl) ⟨⟨⟨_, rfl, .lit rfl rfl (fun v hv => okB0_spec (allL_spec rfl v hv))⟩⟩, ⟨⟨_, rfl, .plain rfl rfl (by first | exact Plain.of rfl | exact Row.all (by assumption))⟩⟩, ⟨⟨_, rfl, .plain rfl rfl (by first | exact Plain.of rfl | exact Row.all (by assumption))⟩⟩, trivial⟩ rfl rfl
    | (show OutK _ _ _ _; (exact out_forget [] ⟨_, _, _, _, _, _, hI1.1, rfl, rfl⟩ rfl (okB2_spec rfl) ⟨⟨⟨_, rfl, .lit rfl rfl (fun v hv => okB0_spec (allL_spec rfl v hv))⟩⟩, trivial⟩ rfl rfl))
    | (refine StoreK.mk rfl ?_; conv => whnf)
    | exact join_same
    | exact (by assumption : (_ : Bool) = (_ : Bool))
    | (refine br_true (by assumption) ?_; conv => whnf)
    | (refine br_false (by assumption) ?_; conv => whnf)
    | (refine br_not ?_; conv => whnf)
    | (refine br_code ?_; conv => whnf)
    | (with_reducible refine br_and ?_; conv => whnf)
    | (with_reducible refine br_or ?_; conv => whnf)
    | (refine br_eq2 ?_; conv => whnf)
    | (refine c_spec_l01Times.call ?_; conv => whnf)
    | (refine c_spec_l01Times.quiet ?_; conv => whnf)
    | (refine draw_auto (by decide +kernel) ?_; conv => whnf)
    | (refine draw_asg (by decide +kernel) ?_; conv => whnf)
    | (refine draw_st (by decide +kernel) ?_; conv => whnf)
    | (refine draw_call (by decide +kernel) ?_; conv => whnf)
    | (refine enter_same (loop_n 12 ?_); conv => whnf)
    | (refine next_same ?_; conv => whnf)
    | (refine mapK_row (by assumption) ?_; conv => whnf)
    | (refine mapK_plain (Plain.of rfl) ?_; conv => whnf)
    | (refine mapK_lit ?_; conv => whnf)
    | (refine br_split (fun _ => ?_) (fun _ => ?_) <;> conv => whnf)
    | exact (rfl : (_ : Value) = _)
    | (simp only [*]; exact (rfl : (_ : Value) = _))
    | (simp [*]; done))

end Go.Proofs.YtlkbfpklhncfbaaGreatDoor
end

section
/-
  Contracts of functions of the program (printed by a program of this work; Lean checks each).
  Conditions: as each contract states.
-/
namespace Go.Proofs.YtlkbfpklhncfbaaGreatDoor
open Go.Ev Go.RowKit
set_option maxRecDepth 100000
set_option linter.unusedVariables false
set_option linter.unusedSimpArgs false

set_option maxHeartbeats 16000000 in
theorem c_AnyMatrix_L {zs : List Int} {off n c : Nat} {o h : Int} (hz : n ≤ zs.length) (hb : ∀ z ∈ zs, IsByte z) (hn : n ≤ 4096) (ha : SrcAt n o) : CallOK Tryz.prog n_spec_l01AnyMatrix [.pointer (some ⟨1, 0, none⟩)] [(away off (bl zs), none), ([.slice (some ⟨0, off, none⟩) n c, ii o, wv h], some t_spec_l01Source)] (fun v m_ => ∃ a1 a2 a3 a4 o2 h2, SrcAt n o2 ∧ v = q4 a1 a2 a3 a4 ∧ m_ = [(away off (bl zs), none), ([.slice (some ⟨0, off, none⟩) n c, ii o2, wv h2], some t_spec_l01Source)]) := by
  refine callOK_ofF good fn_spec_l01AnyMatrix ?_
  conv => whnf
  all_goals (repeat' first
    | (refine draw_pt (.take 0 (.take 2 (.take 4 (.duo 1 (.take 7 (.duo 3 (.solo 5 (.solo 6 (.take 8 (.solo 9 .done)))) 5 (.solo 3 (.solo 6 (.take 8 (.solo 9 .done)))))) 5 (.solo 1 (.take 7 (.solo 3 (.solo 6 (.take 8 (.solo 9 .done)))))))))) (by decide +kernel) ?_; conv => whnf)
    | (refine And.intro ?_ ?_ <;> conv => whnf)
    | (refine CallOK.useD (c_Next_L hz hb hn (by assumption)) [0, 1] rfl rfl rfl ⟨⟨⟨_, rfl, .lit (away_conc (bl_plain _) _).symm (fun _ h_ => by cases h_) (away_ok (bl_plain _) _)⟩⟩, ⟨⟨_, rfl, .lit rfl (fun _ h_ => h_) (fun v hv => okB0_spec (allL_spec rfl v hv))⟩⟩, trivial⟩ (fun v_ mem_ hR => ?_); obtain ⟨x_, o_, h_, hx_, ha_, rfl, rfl⟩ := hR; refine ⟨rfl, ii x_, fun _ => rfl, ?_⟩; (conv => whnf); refine mapK_eval (cs' := [.slice (some ⟨0, off, none⟩) n c, ii o_, wv h_]) rfl ?_; conv => whnf)
    | (refine CallOK.useD (c_DrawUnit_L hz hb hn (by assumption)) [0, 1] rfl rfl rfl ⟨⟨⟨_, rfl, .lit (away_conc (bl_plain _) _).symm (fun _ h_ => by cases h_) (away_ok (bl_plain _) _)⟩⟩, ⟨⟨_, rfl, .lit rfl (fun _ h_ => h_) (fun v hv => okB0_spec (allL_spec rfl v hv))⟩⟩, trivial⟩ (fun v_ mem_ hR => ?_); obtain ⟨a1_, a2_, a3_, a4_, o_, h_, ha_, rfl, rfl⟩ := hR; refine ⟨rfl, q4 a1_ a2_ a3_ a4_, fun _ => rfl, ?_⟩; (conv => whnf); refine mapK_eval (cs' := [.slice (some ⟨0, off, none⟩) n c, ii o_, wv h_]) rfl ?_; conv => whnf)
    | (refine CallOK.useD (c_DrawPoint_L hz hb hn (by assumption)) [0, 1] rfl rfl rfl ⟨⟨⟨_, rfl, .lit (away_conc (bl_plain _) _).symm (fun _ h_ => by cases h_) (away_ok (bl_plain _) _)⟩⟩, ⟨⟨_, rfl, .lit rfl (fun _ h_ => h_) (fun v hv => okB0_spec (allL_spec rfl v hv))⟩⟩, trivial⟩ (fun v_ mem_ hR => ?_); obtain ⟨px_, py_, o_, h_, hp_, ha_, rfl, rfl⟩ := hR; refine ⟨rfl, pt px_ py_, fun _ => rfl, ?_⟩; (conv => whnf); refine mapK_eval (cs' := [.slice (some ⟨0, off, none⟩) n c, ii o_, wv h_]) rfl ?_; conv => whnf)
    | (refine CallOK.useD (c_Size_L hz hb hn (by assumption)) [0, 1] rfl rfl rfl ⟨⟨⟨_, rfl, .lit (away_conc (bl_plain _) _).symm (fun _ h_ => by cases h_) (away_ok (bl_plain _) _)⟩⟩, ⟨⟨_, rfl, .lit rfl (fun _ h_ => h_) (fun v hv => okB0_spec (allL_spec rfl v hv))⟩⟩, trivial⟩ (fun v_ mem_ hR => ?_); obtain ⟨y_, o_, h_, ha_, rfl, rfl⟩ := hR; refine ⟨rfl, ii y_, fun _ => rfl, ?_⟩; (conv => whnf); refine mapK_eval (cs' := [.slice (some ⟨0, off, none⟩) n c, ii o_, wv h_]) rfl ?_; conv => whnf)
    | (refine CallOK.useD (c_Pick_L (xs := [1000001, -1099511627776]) hz hb hn (by assumption) (by decide) (by decide)) [0, 1, 6] rfl rfl rfl ⟨⟨⟨_, rfl, .lit (away_conc (bl_plain _) _).symm (fun _ h_ => by cases h_) (away_ok (bl_plain _) _)⟩⟩, ⟨⟨_, rfl, .lit rfl (fun _ h_ => h_) (fun v hv => okB0_spec (allL_spec rfl v hv))⟩⟩, ⟨⟨_, rfl, .plain rfl (fun _ h_ => by cases h_) (il_plain _)⟩⟩, trivial⟩ (fun v_ mem_ hR => ?_); obtain ⟨y_, o_, h_, ha_, rfl, rfl⟩ := hR; refine ⟨rfl, ii y_, fun _ => rfl, ?_⟩; (conv => whnf); refine mapK_eval (cs' := [.slice (some ⟨0, off, none⟩) n c, ii o_, wv h_]) rfl ?_; conv => whnf)
    | (refine CallOK.useD (c_Pick_L (xs := [1000001, -1099511627776]) hz hb hn (by assumption) (by decide) (by decide)) [0, 1, 4] rfl rfl rfl ⟨⟨⟨_, rfl, .lit (away_conc (bl_plain _) _).symm (fun _ h_ => by cases h_) (away_ok (bl_plain _) _)⟩⟩, ⟨⟨_, rfl, .lit rfl (fun _ h_ => h_) (fun v hv => okB0_spec (allL_spec rfl v hv))⟩⟩, ⟨⟨_, rfl, .plain rfl (fun _ h_ => by cases h_) (il_plain _)⟩⟩, trivial⟩ (fun v_ mem_ hR => ?_); obtain ⟨y_, o_, h_, ha_, rfl, rfl⟩ := hR; refine ⟨rfl, ii y_, fun _ => rfl, ?_⟩; (conv => whnf); refine mapK_eval (cs' := [.slice (some ⟨0, off, none⟩) n c, ii o_, wv h_]) rfl ?_; conv => whnf)
    | (show brK (decide (0 ≤ x_ ∧ x_ < _)) _ _; rcases two_of hx_ with rfl | rfl <;> conv => whnf)
    | (show OutK _ _ _ _; (exact out_forget [] ⟨_, _, _, _, _, _, ha_, rfl, rfl⟩ rfl (okB2_spec rfl) ⟨⟨⟨_, rfl, .lit (away_conc (bl_plain _) _).symm rfl (away_ok (bl_plain _) _)⟩⟩, ⟨⟨_, rfl, .lit rfl rfl (fun v hv => okB0_spec (allL_spec rfl v hv))⟩⟩, trivial⟩ rfl rfl))
    | (refine StoreK.mk rfl ?_; conv => whnf)
    | exact join_same
    | exact (by assumption : (_ : Bool) = (_ : Bool))
    | (refine br_true (by assumption) ?_; conv => whnf)
    | (refine br_false (by assumption) ?_; conv => whnf)
    | (refine br_not ?_; conv => whnf)
    | (refine br_code ?_; conv => whnf)
    | (with_reducible refine br_and ?_; conv => whnf)
    | (with_reducible refine br_or ?_; conv => whnf)
    | (refine br_eq2 ?_; conv => whnf)
    | (refine draw_auto (by decide +kernel) ?_; conv => whnf)
    | (refine draw_asg (by decide +kernel) ?_; conv => whnf)
    | (refine draw_st (by decide +kernel) ?_; conv => whnf)
    | (refine draw_call (by decide +kernel) ?_; conv => whnf)
    | (refine enter_same (loop_n 12 ?_); conv => whnf)
    | (refine next_same ?_; conv => whnf)
    | (refine mapK_row (by assumption) ?_; conv => whnf)
    | (refine mapK_plain (Plain.of rfl) ?_; conv => whnf)
    | (refine mapK_lit ?_; conv => whnf)
    | (refine br_split (fun _ => ?_) (fun _ => ?_) <;> conv => whnf)
    | exact (rfl : (_ : Value) = _)
    | (simp only [*]; exact (rfl : (_ : Value) = _))
    | (simp [*]; done))

set_option maxHeartbeats 16000000 in
theorem c_AnyMatrix_N  {o h : Int}  (ha : SrcAt 0 o) : CallOK Tryz.prog n_spec_l01AnyMatrix [.pointer (some ⟨0, 0, none⟩)] [([.slice none 0 0, ii o, wv h], some t_spec_l01Source)] (fun v m_ => ∃ a1 a2 a3 a4 o2 h2, SrcAt 0 o2 ∧ v = q4 a1 a2 a3 a4 ∧ m_ = [([.slice none 0 0, ii o2, wv h2], some t_spec_l01Source)]) := by
  refine callOK_ofF good fn_spec_l01AnyMatrix ?_
  conv => whnf
  all_goals (repeat' first
    | (refine draw_pt (.take 0 (.take 2 (.take 4 (.duo 1 (.take 7 (.duo 3 (.solo 5 (.solo 6 (.take 8 (.solo 9 .done)))) 5 (.solo 3 (.solo 6 (.take 8 (.solo 9 .done)))))) 5 (.solo 1 (.take 7 (.solo 3 (.solo 6 (.take 8 (.solo 9 .done)))))))))) (by decide +kernel) ?_; conv => whnf)
    | (refine And.intro ?_ ?_ <;> conv => whnf)
    | (refine CallOK.useD (c_Next_N (by assumption)) [0] rfl rfl rfl ⟨⟨⟨_, rfl, .lit rfl (fun _ h_ => h_) (fun v hv => okB0_spec (allL_spec rfl v hv))⟩⟩, trivial⟩ (fun v_ mem_ hR => ?_); obtain ⟨x_, o_, h_, hx_, ha_, rfl, rfl⟩ := hR; refine ⟨rfl, ii x_, fun _ => rfl, ?_⟩; (conv => whnf); refine mapK_eval (cs' := [.slice none 0 0, ii o_, wv h_]) rfl ?_; conv => whnf)
    | (refine CallOK.useD (c_DrawUnit_N (by assumption)) [0] rfl rfl rfl ⟨⟨⟨_, rfl, .lit rfl (fun _ h_ => h_) (fun v hv => okB0_spec (allL_spec rfl v hv))⟩⟩, trivial⟩ (fun v_ mem_ hR => ?_); obtain ⟨a1_, a2_, a3_, a4_, o_, h_, ha_, rfl, rfl⟩ := hR; refine ⟨rfl, q4 a1_ a2_ a3_ a4_, fun _ => rfl, ?_⟩; (conv => whnf); refine mapK_eval (cs' := [.slice none 0 0, ii o_, wv h_]) rfl ?_; conv => whnf)
    | (refine CallOK.useD (c_DrawPoint_N (by assumption)) [0] rfl rfl rfl ⟨⟨⟨_, rfl, .lit rfl (fun _ h_ => h_) (fun v hv => okB0_spec (allL_spec rfl v hv))⟩⟩, trivial⟩ (fun v_ mem_ hR => ?_); obtain ⟨px_, py_, o_, h_, hp_, ha_, rfl, rfl⟩ := hR; refine ⟨rfl, pt px_ py_, fun _ => rfl, ?_⟩; (conv => whnf); refine mapK_eval (cs' := [.slice none 0 0, ii o_, wv h_]) rfl ?_; conv => whnf)
    | (refine CallOK.useD (c_Size_N (by assumption)) [0] rfl rfl rfl ⟨⟨⟨_, rfl, .lit rfl (fun _ h_ => h_) (fun v hv => okB0_spec (allL_spec rfl v hv))⟩⟩, trivial⟩ (fun v_ mem_ hR => ?_); obtain ⟨y_, o_, h_, ha_, rfl, rfl⟩ := hR; refine ⟨rfl, ii y_, fun _ => rfl, ?_⟩; (conv => whnf); refine mapK_eval (cs' := [.slice none 0 0, ii o_, wv h_]) rfl ?_; conv => whnf)
    | (refine CallOK.useD (c_Pick_N (xs := [1000001, -1099511627776]) (by assumption) (by decide) (by decide)) [0, 5] rfl rfl rfl ⟨⟨⟨_, rfl, .lit rfl (fun _ h_ => h_) (fun v hv => okB0_spec (allL_spec rfl v hv))⟩⟩, ⟨⟨_, rfl, .plain rfl (fun _ h_ => by cases h_) (il_plain _)⟩⟩, trivial⟩ (fun v_ mem_ hR => ?_); obtain ⟨y_, o_, h_, ha_, rfl, rfl⟩ := hR; refine ⟨rfl, ii y_, fun _ => rfl, ?_⟩; (conv => whnf); refine mapK_eval (cs' := [.slice none 0 0, ii o_, wv h_]) rfl ?_; conv => whnf)
    | (refine CallOK.useD (c_Pick_N (xs := [1000001, -1099511627776]) (by assumption) (by decide) (by decide)) [0, 3] rfl rfl rfl ⟨⟨⟨_, rfl, .lit rfl (fun _ h_ => h_) (fun v hv => okB0_spec (allL_spec rfl v hv))⟩⟩, ⟨⟨_, rfl, .plain rfl (fun _ h_ => by cases h_) (il_plain _)⟩⟩, trivial⟩ (fun v_ mem_ hR => ?_); obtain ⟨y_, o_, h_, ha_, rfl, rfl⟩ := hR; refine ⟨rfl, ii y_, fun _ => rfl, ?_⟩; (conv => whnf); refine mapK_eval (cs' := [.slice none 0 0, ii o_, wv h_]) rfl ?_; conv => whnf)
    | (show brK (decide (0 ≤ x_ ∧ x_ < _)) _ _; rcases two_of hx_ with rfl | rfl <;> conv => whnf)
    | (show OutK _ _ _ _; (exact out_forget [] ⟨_, _, _, _, _, _, ha_, rfl, rfl⟩ rfl (okB2_spec rfl) ⟨⟨⟨_, rfl, .lit rfl rfl (fun v hv => okB0_spec (allL_spec rfl v hv))⟩⟩, trivial⟩ rfl rfl))
    | (refine StoreK.mk rfl ?_; conv => whnf)
    | exact join_same
    | exact (by assumption : (_ : Bool) = (_ : Bool))
    | (refine br_true (by assumption) ?_; conv => whnf)
    | (refine br_false (by assumption) ?_; conv => whnf)
    | (refine br_not ?_; conv => whnf)
    | (refine br_code ?_; conv => whnf)
    | (with_reducible refine br_and ?_; conv => whnf)
    | (with_reducible refine br_or ?_; conv => whnf)
    | (refine br_eq2 ?_; conv => whnf)
    | (refine draw_auto (by decide +kernel) ?_; conv => whnf)
    | (refine draw_asg (by decide +kernel) ?_; conv => whnf)
    | (refine draw_st (by decide +kernel) ?_; conv => whnf)
    | (refine draw_call (by decide +kernel) ?_; conv => whnf)
    | (refine enter_same (loop_n 12 ?_); conv => whnf)
    | (refine next_same ?_; conv => whnf)
    | (refine mapK_row (by assumption) ?_; conv => whnf)
    | (refine mapK_plain (Plain.of rfl) ?_; conv => whnf)
    | (refine mapK_lit ?_; conv => whnf)
    | (refine br_split (fun _ => ?_) (fun _ => ?_) <;> conv => whnf)
    | exact (rfl : (_ : Value) = _)
    | (simp only [*]; exact (rfl : (_ : Value) = _))
    | (simp [*]; done))

end Go.Proofs.YtlkbfpklhncfbaaGreatDoor
end

section
/-
  Contracts of functions of the program (printed by a program of this work; Lean checks each).
  Conditions: as each contract states.
-/
namespace Go.Proofs.YtlkbfpklhncfbaaGreatDoor
open Go.Ev Go.RowKit
set_option maxRecDepth 100000
set_option linter.unusedVariables false
set_option linter.unusedSimpArgs false

theorem c_big_L {zs : List Int} {off n c : Nat}  : CallOK Tryz.prog n_laws_big [.slice (some ⟨0, off, none⟩) n c] [(away off (bl zs), none)] (fun v m_ => v = bb (decide (((n : Nat) : Int) > 4096)) ∧ m_ = [(away off (bl zs), none)]) := by
  refine callOK_ofF good fn_laws_big ?_
  conv => whnf
  all_goals (repeat' first
    | (show OutK _ _ _ _; exact out_forget [] ⟨rfl, rfl⟩ rfl (okB2_spec rfl) ⟨⟨⟨_, rfl, .lit (away_conc (bl_plain _) _).symm rfl (away_ok (bl_plain _) _)⟩⟩, trivial⟩ rfl rfl)
    | (refine StoreK.mk rfl ?_; conv => whnf)
    | exact join_same
    | exact (by assumption : (_ : Bool) = (_ : Bool))
    | (refine br_true (by assumption) ?_; conv => whnf)
    | (refine br_false (by assumption) ?_; conv => whnf)
    | (refine br_not ?_; conv => whnf)
    | (refine br_code ?_; conv => whnf)
    | (with_reducible refine br_and ?_; conv => whnf)
    | (with_reducible refine br_or ?_; conv => whnf)
    | (refine br_eq2 ?_; conv => whnf)
    | (refine draw_auto (by decide +kernel) ?_; conv => whnf)
    | (refine draw_asg (by decide +kernel) ?_; conv => whnf)
    | (refine draw_st (by decide +kernel) ?_; conv => whnf)
    | (refine draw_call (by decide +kernel) ?_; conv => whnf)
    | (refine enter_same (loop_n 12 ?_); conv => whnf)
    | (refine next_same ?_; conv => whnf)
    | (refine mapK_row (by assumption) ?_; conv => whnf)
    | (refine mapK_plain (Plain.of rfl) ?_; conv => whnf)
    | (refine mapK_lit ?_; conv => whnf)
    | (refine br_split (fun _ => ?_) (fun _ => ?_) <;> conv => whnf)
    | exact (rfl : (_ : Value) = _)
    | (simp only [*]; exact (rfl : (_ : Value) = _))
    | (simp [*]; done))

theorem c_big_N   : CallOK Tryz.prog n_laws_big [.slice none 0 0] [] (fun v m_ => v = bb (decide (((0 : Nat) : Int) > 4096)) ∧ m_ = []) := by
  refine callOK_ofF good fn_laws_big ?_
  conv => whnf
  all_goals (repeat' first
    | (show OutK _ _ _ _; exact out_forget [] ⟨rfl, rfl⟩ rfl (okB2_spec rfl) trivial rfl rfl)
    | (refine StoreK.mk rfl ?_; conv => whnf)
    | exact join_same
    | exact (by assumption : (_ : Bool) = (_ : Bool))
    | (refine br_true (by assumption) ?_; conv => whnf)
    | (refine br_false (by assumption) ?_; conv => whnf)
    | (refine br_not ?_; conv => whnf)
    | (refine br_code ?_; conv => whnf)
    | (with_reducible refine br_and ?_; conv => whnf)
    | (with_reducible refine br_or ?_; conv => whnf)
    | (refine br_eq2 ?_; conv => whnf)
    | (refine draw_auto (by decide +kernel) ?_; conv => whnf)
    | (refine draw_asg (by decide +kernel) ?_; conv => whnf)
    | (refine draw_st (by decide +kernel) ?_; conv => whnf)
    | (refine draw_call (by decide +kernel) ?_; conv => whnf)
    | (refine enter_same (loop_n 12 ?_); conv => whnf)
    | (refine next_same ?_; conv => whnf)
    | (refine mapK_row (by assumption) ?_; conv => whnf)
    | (refine mapK_plain (Plain.of rfl) ?_; conv => whnf)
    | (refine mapK_lit ?_; conv => whnf)
    | (refine br_split (fun _ => ?_) (fun _ => ?_) <;> conv => whnf)
    | exact (rfl : (_ : Value) = _)
    | (simp only [*]; exact (rfl : (_ : Value) = _))
    | (simp [*]; done))

end Go.Proofs.YtlkbfpklhncfbaaGreatDoor
end
