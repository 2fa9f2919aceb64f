/-
  Several texts of this work in one (a claim holds at most 60 files).
  Conditions: as each contract states.
-/
import Derived.Test.YtlkbfpklhncfbaaEvFn
import Derived.WalkKit
import Derived.ProofKit
import Derived.OpenShut
import Derived.ShutString
import Derived.ChangeOld
import Derived.Below
import Derived.Test.YtlkbfpklhncfbaaEvUse
import Derived.Test.YtlkbfpklhncfbaaList
import Derived.ChangeSlices
import Derived.Test.YtlkbfpklhncfbaaMate
import Derived.Test.YtlkbfpklhncfbaaK9
import Derived.Test.YtlkbfpklhncfbaaUseD
import Derived.Test.YtlkbfpklhncfbaaSpot
import Derived.Test.YtlkbfpklhncfbaaK6
import Derived.Test.YtlkbfpklhncfbaaK5
import Derived.Test.YtlkbfpklhncfbaaSum
import Derived.Test.YtlkbfpklhncfbaaCorn
import Derived.Test.YtlkbfpklhncfbaaK72
import Derived.Test.YtlkbfpklhncfbaaK29
import Derived.Test.YtlkbfpklhncfbaaK74
import Derived.Test.YtlkbfpklhncfbaaK75
import Derived.Test.YtlkbfpklhncfbaaK76
import Derived.Test.YtlkbfpklhncfbaaSail
import Derived.Test.YtlkbfpklhncfbaaK8
import Derived.Test.YtlkbfpklhncfbaaLong
section
/-
  The rows: arguments that are made of whole numbers, opened.
  Conditions: none.
-/
set_option linter.unusedVariables false
set_option linter.unusedSimpArgs false
namespace Go.Ev
open Go.ChangeShapes Go.WideShapes Go.ChangeAt Go.RowKit

def IsNum (v : Value) : Prop := ∃ m, v = .int .i64 m ∧ (Lit.int .i64 m).wf = true

/-- A type whose cells are whole numbers of 64 bits, n of them. -/
def IntsTy (P : Program) (t : TypeId) (n : Nat) : Prop :=
  P.cellsOf t = n ∧ ∀ (H : Type) (enc : TypeId × Value → H) (w : World) (base : Nat) (spare : Nat → Bool) (held : Bool) (fuel : Nat) (cs : List Value) (x : DataW H × List MemPlace),
    DataW.trod enc P w base spare held fuel t cs = some x → cs.length = n ∧ ∀ v ∈ cs, IsNum v

theorem IntsTy.int {P : Program} {t : TypeId} (ht : P.underlying t = some (.int .i64)) (hc : P.cellsOf t = 1) : IntsTy P t 1 :=
  ⟨hc, fun H enc w base spare held fuel cs x h => by
    obtain ⟨n, rfl, _, hw⟩ := DataW.trod_int ht h
    exact ⟨rfl, fun v hv => by rw [List.mem_singleton] at hv; exact ⟨n, hv, hw⟩⟩⟩

theorem mem_chunk {k : Nat} (cs : List Value) {j : Nat} (hj : j < cs.length) (i : Nat) (h1 : i * k ≤ j) (h2 : j < i * k + k) : cs[j] ∈ (cs.drop (i * k)).take k := by
  have : ((cs.drop (i * k)).take k)[j - i * k]? = some cs[j] := by
    rw [List.getElem?_take_of_lt (by omega), List.getElem?_drop, show i * k + (j - i * k) = j by omega, List.getElem?_eq_getElem hj]
  exact List.mem_of_getElem? this

theorem IntsTy.arr {P : Program} {t e : TypeId} {n k : Nat} (ht : P.underlying t = some (.array n e)) (he : IntsTy P e k) (hc : P.cellsOf t = n * k) : IntsTy P t (n * k) :=
  ⟨hc, fun H enc w base spare held fuel cs x h => by
    obtain ⟨xs, m, _, _, hl, hxs, hi⟩ := DataW.trod_array ht h
    rw [hc] at hl
    refine ⟨hl, fun v hv => ?_⟩
    obtain ⟨j, hj, rfl⟩ := List.getElem_of_mem hv
    have hk : 0 < k := by
      rcases Nat.eq_zero_or_pos k with h0 | h0
      · subst h0; rw [Nat.mul_zero] at hl; omega
      · exact h0
    have hin : j / k < n := by rw [Nat.div_lt_iff_lt_mul hk]; omega
    have hch := hi (j / k) hin
    rw [he.1] at hch
    have hlt : j / k < xs.length := by omega
    rw [List.getElem?_eq_getElem hlt] at hch
    refine (he.2 _ _ _ _ _ _ _ _ _ hch).2 _ (mem_chunk cs hj (j / k) ?_ ?_)
    · exact Nat.div_mul_le_self j k
    · have := Nat.div_add_mod j k
      have := Nat.mod_lt j hk
      rw [Nat.mul_comm (j / k) k]; omega⟩

/-- A struct of two fields. -/
theorem IntsTy.str2 {P : Program} {t : TypeId} {f0 f1 : Field} {k0 k1 : Nat} (ht : P.underlying t = some (.struct #[f0, f1])) (h0 : IntsTy P f0.type k0) (h1 : IntsTy P f1.type k1)
    (ho0 : f0.offset = 0) (ho1 : f1.offset = k0) (hc : P.cellsOf t = k0 + k1) : IntsTy P t (k0 + k1) :=
  ⟨hc, fun H enc w base spare held fuel cs x h => by
    obtain ⟨xs, m, _, _, hl, hxs, hi⟩ := DataW.trod_struct ht h
    rw [hc] at hl
    refine ⟨hl, fun v hv => ?_⟩
    obtain ⟨j, hj, rfl⟩ := List.getElem_of_mem hv
    have hx2 : xs.length = 2 := by simpa using hxs
    by_cases hlt : j < k0
    · have hch := hi 0 f0 (by simp)
      rw [List.getElem?_eq_getElem (by omega), ho0, h0.1] at hch
      have := mem_chunk (k := k0) cs hj 0 (by omega) (by omega)
      rw [Nat.zero_mul] at this
      exact (h0.2 _ _ _ _ _ _ _ _ _ hch).2 _ this
    · have hch := hi 1 f1 (by simp)
      rw [List.getElem?_eq_getElem (by omega), ho1, h1.1] at hch
      refine (h1.2 _ _ _ _ _ _ _ _ _ hch).2 _ ?_
      have : ((cs.drop k0).take k1)[j - k0]? = some cs[j] := by
        rw [List.getElem?_take_of_lt (by omega), List.getElem?_drop, show k0 + (j - k0) = j by omega, List.getElem?_eq_getElem hj]
      exact List.mem_of_getElem? this⟩

theorem nums_of : ∀ (cs : List Value), (∀ v ∈ cs, IsNum v) → ∃ ns : List Int, ns.length = cs.length ∧ cs = ns.map (.int .i64) ∧ ∀ m ∈ ns, (Lit.int .i64 m).wf = true
  | [], _ => ⟨[], rfl, rfl, fun _ h => (by cases h)⟩
  | v :: cs, h => by
    obtain ⟨m, rfl, hm⟩ := h v (by simp)
    obtain ⟨ns, h1, rfl, h3⟩ := nums_of cs fun u hu => h u (List.mem_cons_of_mem _ hu)
    exact ⟨m :: ns, by rw [List.length_cons, List.length_cons, h1], rfl, fun z hz => (List.mem_cons.1 hz).elim (fun e => e ▸ hm) (h3 z)⟩

/-- An argument that is a row of whole numbers. -/
theorem open_nums {H : Type} {enc : TypeId × Value → H} {P : Program} {w : World} {base : Nat} {spare : Nat → Bool} {held : Bool} {r : Reach} {b0 : Nat} {t : TypeId} {n : Nat} {v : Value} {d : DataW H} {ps : List MemPlace}
    (ht : IntsTy P t n) (hagg : (match P.underlying t with | some (.struct _) => true | some (.array _ _) => true | _ => false) = true) (hval : Value.okWide P w r b0 t v) (hd : DataW.Trod enc P w base spare held t v d ps) :
    ∃ ns : List Int, ns.length = n ∧ v = .agg (ns.map (Value.int .i64)).toArray ∧ ∀ m ∈ ns, (Lit.int .i64 m).wf = true := by
  have : ∃ cs, v = .agg cs := by
    unfold Value.okWide at hval
    split at hval
    · exact hval.imp fun _ h => h.1
    · exact hval.imp fun _ h => h.1
    · rename_i hn1 hn2
      split at hagg
      · rename_i hq; exact (hn1 _ hq).elim
      · rename_i hq; exact (hn2 _ _ hq).elim
      · cases hagg
  obtain ⟨cs, rfl⟩ := this
  obtain ⟨fuel, hf⟩ := hd
  obtain ⟨h1, h2⟩ := ht.2 _ _ _ _ _ _ _ _ _ hf
  simp only [Value.cells] at h1 h2
  obtain ⟨ns, g1, g2, g3⟩ := nums_of cs.toList h2
  exact ⟨ns, by omega, by rw [← g2], g3⟩

theorem nums1 {ns : List Int} (h : ns.length = 1) : ∃ a, ns = [a] := match ns, h with | [a], _ => ⟨a, rfl⟩
theorem nums2 {ns : List Int} (h : ns.length = 2) : ∃ a b, ns = [a, b] := match ns, h with | [a, b], _ => ⟨a, b, rfl⟩
theorem nums3 {ns : List Int} (h : ns.length = 3) : ∃ a b c, ns = [a, b, c] := match ns, h with | [a, b, c], _ => ⟨a, b, c, rfl⟩
theorem nums4 {ns : List Int} (h : ns.length = 4) : ∃ a b c d, ns = [a, b, c, d] := match ns, h with | [a, b, c, d], _ => ⟨a, b, c, d, rfl⟩
theorem nums6 {ns : List Int} (h : ns.length = 6) : ∃ a b c d e f, ns = [a, b, c, d, e, f] := match ns, h with | [a, b, c, d, e, f], _ => ⟨a, b, c, d, e, f, rfl⟩
theorem nums9 {ns : List Int} (h : ns.length = 9) : ∃ a b c d e f g i j, ns = [a, b, c, d, e, f, g, i, j] := match ns, h with | [a, b, c, d, e, f, g, i, j], _ => ⟨a, b, c, d, e, f, g, i, j, rfl⟩
theorem nums12 {ns : List Int} (h : ns.length = 12) : ∃ a b c d e f g i j k l m, ns = [a, b, c, d, e, f, g, i, j, k, l, m] := match ns, h with | [a, b, c, d, e, f, g, i, j, k, l, m], _ => ⟨a, b, c, d, e, f, g, i, j, k, l, m, rfl⟩

end Go.Ev
end

section
/-
  The rows: arguments that are slices of whole numbers, opened; a law's contract over a row that came in, used at the row.
  Conditions: none.
-/
set_option linter.unusedVariables false
set_option linter.unusedSimpArgs false
namespace Go.Ev
open Go.ChangeShapes Go.WideShapes Go.ChangeAt Go.RowKit

/-- Cells behind off cells that are not told. -/
def away (off : Nat) (L : List Value) : List Value := List.replicate off wild ++ L
theorem away_ok {off : Nat} {L : List Value} (h : Plain L) (n : Nat) : ∀ v ∈ away off L, ok0 n v := fun v hv => by
  rcases List.mem_append.1 hv with hv | hv
  · rw [List.eq_of_mem_replicate hv]; trivial
  · exact h.ok n v hv
theorem away_conc {off : Nat} {L : List Value} (h : Plain L) (ρ : List Nat) : (away off L).map (conc0 ρ) = away off L := by
  unfold away
  rw [List.map_append, h.map, List.map_replicate]; rfl
theorem take_away {off o : Nat} {L : List Value} {k : Nat} : List.take k (List.drop (off + o) (away off L)) = List.take k (List.drop o L) := by
  unfold away
  rw [← List.drop_drop, List.drop_left' (by simp)]

/-- What a slice that came in holds. -/
structure ArgAt (W : World) (ab off : Nat) (L : List Value) : Prop where
  lt : ab < W.heap.size
  at_ : ∀ i u, L[i]? = some u → W.cell? ⟨ab, off + i, none⟩ = some u

theorem run_arg {P : Program} {f n c off : Nat} {L : List Value} {W : World} {ab : Nat} {R : Value → Mem → Prop} (h : CallOK P f [.slice (some ⟨0, off, none⟩) n c] [(away off L, none)] R) (hR : ∀ v m, R v m → v = .bool true) (hL : Plain L) (ha : ArgAt W ab off L) :
    Calls P f #[.slice (some ⟨ab, off, none⟩) n c] W (fun e w' => e = .returned (.bool true) ∧ Below W.heap.size W w') := by
  have hm : MemAt ⟨W, []⟩ [ab] [(away off L, none)] W := by
    refine ⟨rfl, rfl, rfl, Nat.le_refl _, rfl, fun b hb => by rw [List.mem_singleton] at hb; subst hb; exact ha.lt, fun i j cs t hi => ?_, fun _ _ _ => rfl, fun k cs t hk => ?_, fun k cs t hk => ?_, fun k cs hk => ?_⟩
    · cases i with
      | zero => cases hi
      | succ i => cases hi
    · cases k with
      | zero => cases hk
      | succ k => cases hk
    · cases k with
      | zero => cases hk
      | succ k => cases hk
    · cases k with
      | succ k => cases hk
      | zero =>
        simp only [List.getElem?_cons_zero, Option.some.injEq, Prod.mk.injEq, and_true] at hk
        subst hk
        intro _
        refine ⟨ha.lt, by simp, fun i v hv hw => ?_, away_ok hL _⟩
        unfold away at hv
        rcases Nat.lt_or_ge i off with hi | hi
        · rw [List.getElem?_append_left (by simpa using hi)] at hv
          have := List.eq_of_mem_replicate (List.mem_of_getElem? hv)
          subst this
          cases hw
        · rw [List.getElem?_append_right (by simpa using hi), List.length_replicate] at hv
          have := ha.at_ _ _ hv
          rw [show off + (i - off) = i by omega] at this
          have hc : conc0 [ab] v = v := (plain0_ok (hL v (List.mem_of_getElem? hv)) 0 [ab]).2
          rw [hc]
          exact this
  have := h.run ⟨W, []⟩ [ab] W hm (fun v hv => by rw [List.mem_singleton] at hv; subst hv; show (0 : Nat) < 1; omega)
  refine this.mono fun e w' ⟨v, mem', σ, h1, h2, h3, h4⟩ => ?_
  have := hR _ _ h4
  subst this
  exact ⟨h1, h3.toBelow⟩

/-- An argument that is a slice of whole numbers. -/
theorem open_slice_nums {H : Type} {enc : TypeId × Value → H} {P : Program} {W : World} {base b0 : Nat} {held : Bool} {r : Reach} {t e : TypeId} {k : IntKind} {v : Value} {d : DataW H} {ps : List MemPlace}
    (ht : P.underlying t = some (.slice e)) (he : P.underlying e = some (.int k)) (hc : P.cellsOf e = 1) (hval : Value.okWide P W r b0 t v) (hd : DataW.Trod enc P W base (fun _ => true) held t v d ps) :
    v = .slice none 0 0 ∨ ∃ (ab ao len cap : Nat) (zs : List Int), v = .slice (some ⟨ab, ao, none⟩) len cap ∧ len ≤ cap ∧ cap ≤ maxLen ∧ zs.length = cap ∧ ArgAt W ab ao (zs.map (Value.int k)) ∧ ∀ n ∈ zs, (Lit.int k n).wf = true := by
  obtain ⟨a1, len, cap, rfl⟩ := okWide_slice ht hval
  obtain ⟨fuel, hf⟩ := hd
  rcases open_ints ht he hc hf with ⟨hcs, hx⟩ | ⟨a, len', cap', zs, hcs, _, hl, hm, hz, hx, hcell, hwz⟩
  · simp [Value.cells] at hcs
    obtain ⟨rfl, rfl, rfl⟩ := hcs
    exact .inl rfl
  · simp [Value.cells] at hcs
    obtain ⟨rfl, rfl, rfl⟩ := hcs
    simp only [if_true] at hz
    obtain ⟨ab, ao, spot⟩ := a
    simp only [Value.okWide, ht, Cell.okWide, Cell.ok, World.has] at hval
    obtain ⟨_, _, _, hspot, row, cells, hsh, _⟩ := hval
    subst hspot
    refine .inr ⟨ab, ao, len, cap, zs, rfl, hl, hm, hz, ⟨?_, fun i u hu => ?_⟩, hwz⟩
    · rcases Nat.lt_or_ge ab W.heap.size with h | h
      · exact h
      · simp [World.shape?, h] at hsh
    · rw [List.getElem?_map] at hu
      cases hzi : zs[i]? with
      | none => rw [hzi] at hu; cases hu
      | some z =>
        rw [hzi] at hu
        simp only [Option.map_some, Option.some.injEq] at hu
        subst hu
        have := hcell i (getElem?_len hzi)
        rw [Addr.add_lit] at this
        rw [this]
        congr 2
        simp [List.getD, hzi]

/-- A row of bytes. -/
def bl (xs : List Int) : List Value := xs.map (Value.int .u8)
def IsByte (x : Int) : Prop := 0 ≤ x ∧ x ≤ 255
theorem bl_plain (xs : List Int) : Plain (bl xs) := fun v hv => by
  obtain ⟨x, _, rfl⟩ := List.mem_map.1 hv
  rfl
theorem bl_len (xs : List Int) : (bl xs).length = xs.length := by simp [bl]
theorem byte_wf {n : Int} (h : (Lit.int .u8 n).wf = true) : IsByte n := bounds_u8 h
theorem take_bl {xs : List Int} {off o i : Nat} {L : List Value} (hL : L = bl xs) (ho : o = off + i) (hi : i < xs.length) : List.take 1 (List.drop o (away off L)) = [.int .u8 (xs.getD i 0)] := by
  subst ho hL
  rw [take_away]
  have h1 : i < (bl xs).length := by rw [bl_len]; exact hi
  rw [List.drop_eq_getElem_cons h1]
  have : (bl xs)[i] = Value.int .u8 (xs.getD i 0) := by simp [bl, List.getD, hi]
  rw [this]
  rfl

/-! ### Words of 64 bits -/

theorem u64_wrap (n : Int) : 0 ≤ IntKind.u64.wrap n ∧ IntKind.u64.wrap n < 18446744073709551616 := by
  have h1 : IntKind.u64.wrap n = n % 18446744073709551616 := rfl
  rw [h1]
  omega
theorem u64and_le (a : Int) : 0 ≤ u64and a 1073741823 ∧ u64and a 1073741823 ≤ 1073741823 := by
  unfold u64and
  have h1 : (BitVec.ofInt IntKind.u64.bits a &&& BitVec.ofInt IntKind.u64.bits 1073741823).toNat ≤ 1073741823 := by
    rw [BitVec.toNat_and]
    exact Nat.and_le_right
  generalize (BitVec.ofInt IntKind.u64.bits a &&& BitVec.ofInt IntKind.u64.bits 1073741823).toNat = m at *
  have h2 : IntKind.u64.wrap (m : Int) = (m : Int) % 18446744073709551616 := rfl
  rw [h2]
  omega

end Go.Ev
end

section
/-
  The source of numbers that the draws use: what is told of it. Conditions: none.
-/
set_option linter.unusedVariables false
set_option linter.unusedSimpArgs false
namespace Go.Ev
open Go.RowKit

abbrev wv (h : Int) : Value := .int .u64 h
/-- A source's place in a code of n bytes. -/
structure SrcAt (n : Nat) (o : Int) : Prop where
  lo : 0 ≤ o
  hi : o ≤ (n : Int)
theorem SrcAt.zero (n : Nat) : SrcAt n 0 := ⟨Int.le_refl _, by omega⟩
theorem SrcAt.next {n : Nat} {o : Int} (h : SrcAt n o) (hn : n ≤ 4096) (ho : o < (n : Int)) : SrcAt n (w64 (o + 1)) := by
  have := h.lo
  rw [w64_in (by omega) (by omega)]
  exact ⟨by omega, by omega⟩
/-- A number below m, if m is at least 1. -/
def Below1 (m x : Int) : Prop := 1 ≤ m → 0 ≤ x ∧ x < m
theorem below_mod {m x : Int} (hx : 0 ≤ x) : Below1 m (x.tmod m) := fun hm => by
  rw [tmod_pos hx]
  exact ⟨Int.emod_nonneg _ (by omega), Int.emod_lt_of_pos _ (by omega)⟩
theorem below_zero {m : Int} (hm : m < 1) : Below1 m 0 := fun h => by omega
theorem src_x (h : Int) : 0 ≤ w64 (u64and h 1073741823) ∧ w64 (u64and h 1073741823) ≤ 1073741823 := by
  have := u64and_le h
  rw [w64_in (by omega) (by omega)]; exact this
theorem src_xb {h b : Int} (hb : IsByte b) : 0 ≤ w64 (w64 (u64and h 1073741823) + w64 b) := by
  have h1 := src_x h
  have h2 := hb.1; have h3 := hb.2
  rw [w64_in (n := b) (by omega) (by omega), w64_in (by omega) (by omega)]
  omega
theorem byte_at {zs : List Int} (hb : ∀ z ∈ zs, IsByte z) {i : Nat} (hi : i < zs.length) : IsByte (zs.getD i 0) := hb _ (getD_mem hi)
theorem take_il0 {xs : List Int} {off i : Nat} (ho : off = i) (hi : i < xs.length) : List.take 1 (List.drop off (il xs)) = [iv (xs.getD i 0)] := by
  have := take_il (xs := xs) (sp := []) ho hi
  rwa [List.append_nil] at this
theorem three_of {x : Int} (h : Below1 3 x) : x = 0 ∨ x = 1 ∨ x = 2 := by
  have := h (by omega)
  omega

end Go.Ev
end

section
/-
  Contracts of functions of the program (printed by a program of this work; Lean checks each).
  Conditions: as each contract states.
-/
namespace Go.Proofs.Ytlkbfpklhncfbaa
open Go.Ev Go.RowKit
set_option maxRecDepth 100000
set_option linter.unusedVariables false
set_option linter.unusedSimpArgs false

set_option maxHeartbeats 1000000 in
theorem c_From_L {zs : List Int} {off n c : Nat} (hz : n ≤ zs.length) (hb : ∀ z ∈ zs, IsByte z) (hn : n ≤ 4096) : CallOK Try.prog n_spec_l01From [.slice (some ⟨0, off, none⟩) n c] [(away off (bl zs), none)] (fun v m_ => ∃ h, v = .pointer (some ⟨1, 0, none⟩) ∧ m_ = [(away off (bl zs), none), ([.slice (some ⟨0, off, none⟩) n c, ii 0, wv h], some t_spec_l01Source)]) := by
  refine callOK_ofF good fn_spec_l01From ?_
  conv => whnf
  all_goals (repeat' first
    | (refine enter_forget [1] (loop_rec (fun (s : Int × Int) => match s with | (i, h) => [.slice (some ⟨0, off, none⟩) n c, wild, wild, .pointer (some ⟨1, 0, none⟩), ii i, wild, wild, wild, wild, wild, wild, wild, wild, wild, wild, wild, wild, wild, wild, wild, wild, wild, wild, wild, wild, wild, wild, wild, wild, wild, wild, wild, wild, wild, wild, wild, wild, wild]) (fun (s : Int × Int) => match s with | (i, h) => [(away off (bl zs), none), ([.slice (some ⟨0, off, none⟩) n c, ii 0, wv h], some t_spec_l01Source)]) (fun (s : Int × Int) => match s with | (i, h) => ((n : Int) - i).toNat) (fun (s : Int × Int) => match s with | (i, h) => 0 ≤ i ∧ i ≤ (n : Int)) (0, u64add 12971 (u64of (n : Int))) (by omega) ?_) (tmR_rfl rfl rfl) ⟨⟨⟨_, rfl, .lit (away_conc (bl_plain _) _).symm rfl (away_ok (bl_plain _) _)⟩⟩, ⟨⟨_, rfl, .lit rfl rfl (fun v hv => okB0_spec (allL_spec rfl v hv))⟩⟩, trivial⟩ rfl rfl; rintro fuel_ ⟨i, h⟩ hI IH; replace hI : 0 ≤ i ∧ i ≤ (n : Int) := hI; conv => whnf)
    | exact next_forget [1] (IH (w64 (i + 1), _) (idx_next hI (show decide (i < (n : Int)) = true by assumption) (by omega)) (idx_mu hI (show decide (i < (n : Int)) = true by assumption) (by omega))) (tmR_rfl rfl rfl) ⟨⟨⟨_, rfl, .lit (away_conc (bl_plain _) _).symm rfl (away_ok (bl_plain _) _)⟩⟩, ⟨⟨_, rfl, .lit rfl rfl (fun v hv => okB0_spec (allL_spec rfl v hv))⟩⟩, trivial⟩ rfl rfl
    | (refine br_in hI.1 (of_decide_eq_true (show decide (i < (n : Int)) = true by assumption)) ?_; conv => whnf)
    | (refine force_eq (take_bl (xs := zs) (i := i.toNat) rfl ?_ ?_) ?_; (focus (simp only [Nat.mul_one]; done)); (focus (have := hI.1; have := of_decide_eq_true (show decide (i < (n : Int)) = true by assumption); omega)); conv => whnf)
    | (show OutK _ _ _ _; exact out_forget [_] ⟨_, rfl, rfl⟩ rfl (okB2_spec rfl) ⟨⟨⟨_, rfl, .lit (away_conc (bl_plain _) _).symm rfl (away_ok (bl_plain _) _)⟩⟩, ⟨⟨_, rfl, .lit rfl rfl (fun v hv => okB0_spec (allL_spec rfl v hv))⟩⟩, trivial⟩ rfl rfl)
    | (refine StoreK.mk rfl ?_; conv => whnf)
    | exact join_same
    | exact (by assumption : (_ : Bool) = (_ : Bool))
    | (refine br_true (by assumption) ?_; conv => whnf)
    | (refine br_false (by assumption) ?_; conv => whnf)
    | (refine br_not ?_; conv => whnf)
    | (refine br_code ?_; conv => whnf)
    | (with_reducible refine br_and ?_; conv => whnf)
    | (with_reducible refine br_or ?_; conv => whnf)
    | (refine br_eq2 ?_; conv => whnf)
    | (refine draw_auto (by decide +kernel) ?_; conv => whnf)
    | (refine draw_asg (by decide +kernel) ?_; conv => whnf)
    | (refine draw_st (by decide +kernel) ?_; conv => whnf)
    | (refine draw_call (by decide +kernel) ?_; conv => whnf)
    | (refine enter_same (loop_n 12 ?_); conv => whnf)
    | (refine next_same ?_; conv => whnf)
    | (refine mapK_row (by assumption) ?_; conv => whnf)
    | (refine mapK_plain (Plain.of rfl) ?_; conv => whnf)
    | (refine mapK_lit ?_; conv => whnf)
    | (refine br_split (fun _ => ?_) (fun _ => ?_) <;> conv => whnf)
    | exact (rfl : (_ : Value) = _)
    | (simp only [*]; exact (rfl : (_ : Value) = _))
    | (simp [*]; done))

set_option maxHeartbeats 1000000 in
theorem c_Next_L {zs : List Int} {off n c : Nat} {o h m : Int} (hz : n ≤ zs.length) (hb : ∀ z ∈ zs, IsByte z) (hn : n ≤ 4096) (ha : SrcAt n o) : CallOK Try.prog n_spec_l01Next [.pointer (some ⟨1, 0, none⟩), ii m] [(away off (bl zs), none), ([.slice (some ⟨0, off, none⟩) n c, ii o, wv h], some t_spec_l01Source)] (fun v m_ => ∃ x o2 h2, Below1 m x ∧ SrcAt n o2 ∧ v = ii x ∧ m_ = [(away off (bl zs), none), ([.slice (some ⟨0, off, none⟩) n c, ii o2, wv h2], some t_spec_l01Source)]) := by
  refine callOK_ofF good fn_spec_l01Next ?_
  conv => whnf
  all_goals (repeat' first
    | (refine br_false (b := decide (m = 0)) (decide_eq_false ?_) ?_; (focus (have := of_decide_eq_false (show decide (m < 1) = false by assumption); omega)); conv => whnf)
    | (refine br_in ha.lo (of_decide_eq_true (show decide (o < (n : Int)) = true by assumption)) ?_; conv => whnf)
    | (refine force_eq (take_bl (xs := zs) (i := o.toNat) rfl ?_ ?_) ?_; (focus (simp only [Nat.mul_one]; done)); (focus (have := ha.lo; have := of_decide_eq_true (show decide (o < (n : Int)) = true by assumption); omega)); conv => whnf)
    | (show OutK _ _ _ _; rename decide (m < 1) = true => q0_; (exact out_forget [] ⟨_, _, _, below_zero (of_decide_eq_true q0_), ha, rfl, rfl⟩ rfl (okB2_spec rfl) ⟨⟨⟨_, rfl, .lit (away_conc (bl_plain _) _).symm rfl (away_ok (bl_plain _) _)⟩⟩, ⟨⟨_, rfl, .lit rfl rfl (fun v hv => okB0_spec (allL_spec rfl v hv))⟩⟩, trivial⟩ rfl rfl))
    | (show OutK _ _ _ _; rename decide (o < ((n : Nat) : Int)) = false => q0_; (exact out_forget [] ⟨_, _, _, below_mod (src_x _).1, ha, rfl, rfl⟩ rfl (okB2_spec rfl) ⟨⟨⟨_, rfl, .lit (away_conc (bl_plain _) _).symm rfl (away_ok (bl_plain _) _)⟩⟩, ⟨⟨_, rfl, .lit rfl rfl (fun v hv => okB0_spec (allL_spec rfl v hv))⟩⟩, trivial⟩ rfl rfl))
    | (show OutK _ _ _ _; rename decide (o < ((n : Nat) : Int)) = true => q0_; (exact out_forget [] ⟨_, _, _, below_mod (src_xb (byte_at hb (by have := ha.lo; have := of_decide_eq_true q0_; omega))), ha.next hn (of_decide_eq_true q0_), rfl, rfl⟩ rfl (okB2_spec rfl) ⟨⟨⟨_, rfl, .lit (away_conc (bl_plain _) _).symm rfl (away_ok (bl_plain _) _)⟩⟩, ⟨⟨_, rfl, .lit rfl rfl (fun v hv => okB0_spec (allL_spec rfl v hv))⟩⟩, trivial⟩ rfl rfl))
    | (refine StoreK.mk rfl ?_; conv => whnf)
    | exact join_same
    | exact (by assumption : (_ : Bool) = (_ : Bool))
    | (refine br_true (by assumption) ?_; conv => whnf)
    | (refine br_false (by assumption) ?_; conv => whnf)
    | (refine br_not ?_; conv => whnf)
    | (refine br_code ?_; conv => whnf)
    | (with_reducible refine br_and ?_; conv => whnf)
    | (with_reducible refine br_or ?_; conv => whnf)
    | (refine br_eq2 ?_; conv => whnf)
    | (refine draw_auto (by decide +kernel) ?_; conv => whnf)
    | (refine draw_asg (by decide +kernel) ?_; conv => whnf)
    | (refine draw_st (by decide +kernel) ?_; conv => whnf)
    | (refine draw_call (by decide +kernel) ?_; conv => whnf)
    | (refine enter_same (loop_n 12 ?_); conv => whnf)
    | (refine next_same ?_; conv => whnf)
    | (refine mapK_row (by assumption) ?_; conv => whnf)
    | (refine mapK_plain (Plain.of rfl) ?_; conv => whnf)
    | (refine mapK_lit ?_; conv => whnf)
    | (refine br_split (fun _ => ?_) (fun _ => ?_) <;> conv => whnf)
    | exact (rfl : (_ : Value) = _)
    | (simp only [*]; exact (rfl : (_ : Value) = _))
    | (simp [*]; done))

set_option maxHeartbeats 1000000 in
theorem c_From_N   : CallOK Try.prog n_spec_l01From [.slice none 0 0] [] (fun v m_ => ∃ h, v = .pointer (some ⟨0, 0, none⟩) ∧ m_ = [([.slice none 0 0, ii 0, wv h], some t_spec_l01Source)]) := by
  refine callOK_ofF good fn_spec_l01From ?_
  conv => whnf
  all_goals (repeat' first
    | (refine br_in hI.1 (of_decide_eq_true (show decide (i < (n : Int)) = true by assumption)) ?_; conv => whnf)
    | (refine force_eq (take_bl (xs := zs) (i := i.toNat) rfl ?_ ?_) ?_; (focus (simp only [Nat.mul_one]; done)); (focus (have := hI.1; have := of_decide_eq_true (show decide (i < (n : Int)) = true by assumption); omega)); conv => whnf)
    | (show OutK _ _ _ _; exact out_forget [_] ⟨_, rfl, rfl⟩ rfl (okB2_spec rfl) ⟨⟨⟨_, rfl, .lit rfl rfl (fun v hv => okB0_spec (allL_spec rfl v hv))⟩⟩, trivial⟩ rfl rfl)
    | (refine StoreK.mk rfl ?_; conv => whnf)
    | exact join_same
    | exact (by assumption : (_ : Bool) = (_ : Bool))
    | (refine br_true (by assumption) ?_; conv => whnf)
    | (refine br_false (by assumption) ?_; conv => whnf)
    | (refine br_not ?_; conv => whnf)
    | (refine br_code ?_; conv => whnf)
    | (with_reducible refine br_and ?_; conv => whnf)
    | (with_reducible refine br_or ?_; conv => whnf)
    | (refine br_eq2 ?_; conv => whnf)
    | (refine draw_auto (by decide +kernel) ?_; conv => whnf)
    | (refine draw_asg (by decide +kernel) ?_; conv => whnf)
    | (refine draw_st (by decide +kernel) ?_; conv => whnf)
    | (refine draw_call (by decide +kernel) ?_; conv => whnf)
    | (refine enter_same (loop_n 12 ?_); conv => whnf)
    | (refine next_same ?_; conv => whnf)
    | (refine mapK_row (by assumption) ?_; conv => whnf)
    | (refine mapK_plain (Plain.of rfl) ?_; conv => whnf)
    | (refine mapK_lit ?_; conv => whnf)
    | (refine br_split (fun _ => ?_) (fun _ => ?_) <;> conv => whnf)
    | exact (rfl : (_ : Value) = _)
    | (simp only [*]; exact (rfl : (_ : Value) = _))
    | (simp [*]; done))

set_option maxHeartbeats 1000000 in
theorem c_Next_N  {o h m : Int}  (ha : SrcAt 0 o) : CallOK Try.prog n_spec_l01Next [.pointer (some ⟨0, 0, none⟩), ii m] [([.slice none 0 0, ii o, wv h], some t_spec_l01Source)] (fun v m_ => ∃ x o2 h2, Below1 m x ∧ SrcAt 0 o2 ∧ v = ii x ∧ m_ = [([.slice none 0 0, ii o2, wv h2], some t_spec_l01Source)]) := by
  refine callOK_ofF good fn_spec_l01Next ?_
  conv => whnf
  all_goals (repeat' first
    | (refine br_false (b := decide (m = 0)) (decide_eq_false ?_) ?_; (focus (have := of_decide_eq_false (show decide (m < 1) = false by assumption); omega)); conv => whnf)
    | (refine br_in ha.lo (of_decide_eq_true (show decide (o < (n : Int)) = true by assumption)) ?_; conv => whnf)
    | (refine force_eq (take_bl (xs := zs) (i := o.toNat) rfl ?_ ?_) ?_; (focus (simp only [Nat.mul_one]; done)); (focus (have := ha.lo; have := of_decide_eq_true (show decide (o < (n : Int)) = true by assumption); omega)); conv => whnf)
    | (show OutK _ _ _ _; rename decide (m < 1) = true => q0_; (exact out_forget [] ⟨_, _, _, below_zero (of_decide_eq_true q0_), ha, rfl, rfl⟩ rfl (okB2_spec rfl) ⟨⟨⟨_, rfl, .lit rfl rfl (fun v hv => okB0_spec (allL_spec rfl v hv))⟩⟩, trivial⟩ rfl rfl))
    | (show OutK _ _ _ _; rename decide (o < ((0 : Nat) : Int)) = false => q0_; (exact out_forget [] ⟨_, _, _, below_mod (src_x _).1, ha, rfl, rfl⟩ rfl (okB2_spec rfl) ⟨⟨⟨_, rfl, .lit rfl rfl (fun v hv => okB0_spec (allL_spec rfl v hv))⟩⟩, trivial⟩ rfl rfl))
    | exact absurd (of_decide_eq_true (show decide (o < ((0 : Nat) : Int)) = true by assumption)) (by have := ha.lo; omega)
    | (refine StoreK.mk rfl ?_; conv => whnf)
    | exact join_same
    | exact (by assumption : (_ : Bool) = (_ : Bool))
    | (refine br_true (by assumption) ?_; conv => whnf)
    | (refine br_false (by assumption) ?_; conv => whnf)
    | (refine br_not ?_; conv => whnf)
    | (refine br_code ?_; conv => whnf)
    | (with_reducible refine br_and ?_; conv => whnf)
    | (with_reducible refine br_or ?_; conv => whnf)
    | (refine br_eq2 ?_; conv => whnf)
    | (refine draw_auto (by decide +kernel) ?_; conv => whnf)
    | (refine draw_asg (by decide +kernel) ?_; conv => whnf)
    | (refine draw_st (by decide +kernel) ?_; conv => whnf)
    | (refine draw_call (by decide +kernel) ?_; conv => whnf)
    | (refine enter_same (loop_n 12 ?_); conv => whnf)
    | (refine next_same ?_; conv => whnf)
    | (refine mapK_row (by assumption) ?_; conv => whnf)
    | (refine mapK_plain (Plain.of rfl) ?_; conv => whnf)
    | (refine mapK_lit ?_; conv => whnf)
    | (refine br_split (fun _ => ?_) (fun _ => ?_) <;> conv => whnf)
    | exact (rfl : (_ : Value) = _)
    | (simp only [*]; exact (rfl : (_ : Value) = _))
    | (simp [*]; done))

end Go.Proofs.Ytlkbfpklhncfbaa
end

section
/-
  Spots in tetrahedra: the parts have the volume of the whole just where the coordinates tell so. The plain law.
  Conditions: none.
-/
set_option linter.unusedVariables false
set_option linter.unusedSimpArgs false
namespace Go.Ev

def tvF (a b c d e f g h i x y z : Int) : Int := sizeF (volF (plusF d (-1) a) (plusF e (-1) b) (plusF f (-1) c) (plusF g (-1) a) (plusF h (-1) b) (plusF i (-1) c) (plusF x (-1) a) (plusF y (-1) b) (plusF z (-1) c))
def sm (a m : Int) : Prop := -m ≤ a ∧ a ≤ m

theorem sm_mul {x y m n : Int} (hx : sm x m) (hy : sm y n) (hm : 0 ≤ m) : sm (x * y) (m * n) := mul_abs hx.1 hx.2 hy.1 hy.2 hm
theorem volF_pt {a b c d e f g h i : Int} (ha : sm a 40) (hb : sm b 40) (hc : sm c 40) (hd : sm d 40) (he : sm e 40) (hf : sm f 40) (hg : sm g 40) (hh : sm h 40) (hi : sm i 40) :
    volF a b c d e f g h i = volP a b c d e f g h i ∧ sm (volP a b c d e f g h i) 384000 := by
  have h1 := sm_mul he hi (by omega); have h2 := sm_mul hf hh (by omega); have h3 := sm_mul hf hg (by omega); have h4 := sm_mul hd hi (by omega); have h5 := sm_mul hd hh (by omega); have h6 := sm_mul he hg (by omega)
  have k1 : sm (e * i - f * h) 3200 := by unfold sm at *; omega
  have k2 : sm (f * g - d * i) 3200 := by unfold sm at *; omega
  have k3 : sm (d * h - e * g) 3200 := by unfold sm at *; omega
  have l1 := sm_mul ha k1 (by omega); have l2 := sm_mul hb k2 (by omega); have l3 := sm_mul hc k3 (by omega)
  have hv : sm (volP a b c d e f g h i) 384000 := by unfold volP; unfold sm at *; omega
  refine ⟨?_, hv⟩
  rw [volF_eq]
  unfold sm at hv
  rw [w64_in (by omega) (by omega)]
theorem plus_pt {a b : Int} (ha : sm a 20) (hb : sm b 20) : plusF a (-1) b = a - b ∧ sm (a - b) 40 := by
  unfold sm at *
  rw [plusF_neg, w64_in (by omega) (by omega)]
  omega
theorem isSpF_iff {a b c : Int} : isSpF a b c = true ↔ sm a 20 ∧ sm b 20 ∧ sm c 20 := by
  unfold isSpF isSF inF sm
  simp only [Bool.and_eq_true, decide_eq_true_eq, ge_iff_le]
  omega
/-- The numbers of a tetrahedron's corners are small. -/
structure TetOk (a b c d e f g h i x y z : Int) : Prop where
  s0 : isSpF a b c = true
  s1 : isSpF d e f = true
  s2 : isSpF g h i = true
  s3 : isSpF x y z = true
theorem tv_eq {a b c d e f g h i x y z : Int} (k : TetOk a b c d e f g h i x y z) :
    tvF a b c d e f g h i x y z = (volP (d - a) (e - b) (f - c) (g - a) (h - b) (i - c) (x - a) (y - b) (z - c)).natAbs ∧ sm (volP (d - a) (e - b) (f - c) (g - a) (h - b) (i - c) (x - a) (y - b) (z - c)) 384000 := by
  obtain ⟨ha, hb, hc⟩ := isSpF_iff.1 k.s0
  obtain ⟨hd, he, hf⟩ := isSpF_iff.1 k.s1
  obtain ⟨hg, hh, hi⟩ := isSpF_iff.1 k.s2
  obtain ⟨hx, hy, hz⟩ := isSpF_iff.1 k.s3
  unfold tvF
  rw [(plus_pt hd ha).1, (plus_pt he hb).1, (plus_pt hf hc).1, (plus_pt hg ha).1, (plus_pt hh hb).1, (plus_pt hi hc).1, (plus_pt hx ha).1, (plus_pt hy hb).1, (plus_pt hz hc).1]
  have := volF_pt (plus_pt hd ha).2 (plus_pt he hb).2 (plus_pt hf hc).2 (plus_pt hg ha).2 (plus_pt hh hb).2 (plus_pt hi hc).2 (plus_pt hx ha).2 (plus_pt hy hb).2 (plus_pt hz hc).2
  refine ⟨?_, this.2⟩
  rw [this.1]
  have h2 := this.2
  unfold sm at h2
  unfold sizeF maxi
  rw [w64_in (by omega) (by omega)]
  split <;> omega

/-- The volumes of the four parts that (p, q, r) makes, together. -/
def partsF (a b c d e f g h i x y z p q r : Int) : Int :=
  w64 (w64 (w64 (w64 (0 + tvF p q r d e f g h i x y z) + tvF a b c p q r g h i x y z) + tvF a b c d e f p q r x y z) + tvF a b c d e f g h i p q r)
def hasF (a b c d e f g h i x y z p q r : Int) : Bool := decide (partsF a b c d e f g h i x y z p q r = tvF a b c d e f g h i x y z)
def rel (f : Int → Int → Int → Int → Int → Int → Int → Int → Int → Int → Int → Int → Int) (a b c d e f' g h i x y z p q r : Int) : Int :=
  f (plusF d (-1) a) (plusF e (-1) b) (plusF f' (-1) c) (plusF g (-1) a) (plusF h (-1) b) (plusF i (-1) c) (plusF x (-1) a) (plusF y (-1) b) (plusF z (-1) c) (plusF p (-1) a) (plusF q (-1) b) (plusF r (-1) c)
def insF (a b c d e f g h i x y z p q r : Int) : Bool :=
  decide (rel co0 a b c d e f g h i x y z p q r ≥ 0) && decide (rel co1 a b c d e f g h i x y z p q r ≥ 0) && decide (rel co2 a b c d e f g h i x y z p q r ≥ 0) &&
    decide (w64 (w64 (rel co0 a b c d e f g h i x y z p q r + rel co1 a b c d e f g h i x y z p q r) + rel co2 a b c d e f g h i x y z p q r) ≤ tvF a b c d e f g h i x y z)

theorem vol_parts (a b c d e f g h i p q r : Int) :
    volP (a - p) (b - q) (c - r) (d - p) (e - q) (f - r) (g - p) (h - q) (i - r) = volP a b c d e f g h i - volP p q r d e f g h i - volP a b c p q r g h i - volP a b c d e f p q r := by
  unfold volP; grind

theorem abs_parts (D v1 v2 v3 : Int) (s : Int) (hs : s = if D < 0 then -1 else 1) :
    ((D - v1 - v2 - v3).natAbs : Int) + v1.natAbs + v2.natAbs + v3.natAbs = D.natAbs ↔ (s * v1 ≥ 0 ∧ s * v2 ≥ 0 ∧ s * v3 ≥ 0) ∧ s * v1 + s * v2 + s * v3 ≤ D.natAbs := by
  subst hs
  split
  · simp only [Int.neg_mul, Int.one_mul]; omega
  · simp only [Int.one_mul]; omega

theorem has_ins {a b c d e f g h i x y z p q r : Int} (k : TetOk a b c d e f g h i x y z) (hp : isSpF p q r = true) : hasF a b c d e f g h i x y z p q r = insF a b c d e f g h i x y z p q r := by
  have t := tv_eq k
  have t0 := tv_eq (a := p) (b := q) (c := r) ⟨hp, k.s1, k.s2, k.s3⟩
  have t1 := tv_eq (d := p) (e := q) (f := r) ⟨k.s0, hp, k.s2, k.s3⟩
  have t2 := tv_eq (g := p) (h := q) (i := r) ⟨k.s0, k.s1, hp, k.s3⟩
  have t3 := tv_eq (x := p) (y := q) (z := r) ⟨k.s0, k.s1, k.s2, hp⟩
  obtain ⟨ha, hb, hc⟩ := isSpF_iff.1 k.s0
  obtain ⟨hd, he, hf⟩ := isSpF_iff.1 k.s1
  obtain ⟨hg, hh, hi⟩ := isSpF_iff.1 k.s2
  obtain ⟨hx, hy, hz⟩ := isSpF_iff.1 k.s3
  obtain ⟨hp0, hq0, hr0⟩ := isSpF_iff.1 hp
  have e0 : volP (d - p) (e - q) (f - r) (g - p) (h - q) (i - r) (x - p) (y - q) (z - r) =
      volP (d - a) (e - b) (f - c) (g - a) (h - b) (i - c) (x - a) (y - b) (z - c) - volP (p - a) (q - b) (r - c) (g - a) (h - b) (i - c) (x - a) (y - b) (z - c)
        - volP (d - a) (e - b) (f - c) (p - a) (q - b) (r - c) (x - a) (y - b) (z - c) - volP (d - a) (e - b) (f - c) (g - a) (h - b) (i - c) (p - a) (q - b) (r - c) := by
    rw [← vol_parts]
    congr 1 <;> omega
  rw [e0] at t0
  have vD := volF_pt (plus_pt hd ha).2 (plus_pt he hb).2 (plus_pt hf hc).2 (plus_pt hg ha).2 (plus_pt hh hb).2 (plus_pt hi hc).2 (plus_pt hx ha).2 (plus_pt hy hb).2 (plus_pt hz hc).2
  have v1 := volF_pt (plus_pt hp0 ha).2 (plus_pt hq0 hb).2 (plus_pt hr0 hc).2 (plus_pt hg ha).2 (plus_pt hh hb).2 (plus_pt hi hc).2 (plus_pt hx ha).2 (plus_pt hy hb).2 (plus_pt hz hc).2
  have v2 := volF_pt (plus_pt hd ha).2 (plus_pt he hb).2 (plus_pt hf hc).2 (plus_pt hp0 ha).2 (plus_pt hq0 hb).2 (plus_pt hr0 hc).2 (plus_pt hx ha).2 (plus_pt hy hb).2 (plus_pt hz hc).2
  have v3 := volF_pt (plus_pt hd ha).2 (plus_pt he hb).2 (plus_pt hf hc).2 (plus_pt hg ha).2 (plus_pt hh hb).2 (plus_pt hi hc).2 (plus_pt hp0 ha).2 (plus_pt hq0 hb).2 (plus_pt hr0 hc).2
  unfold hasF insF partsF rel co0 co1 co2
  rw [t.1, t0.1, t1.1, t2.1, t3.1, (plus_pt hd ha).1, (plus_pt he hb).1, (plus_pt hf hc).1, (plus_pt hg ha).1, (plus_pt hh hb).1, (plus_pt hi hc).1, (plus_pt hx ha).1, (plus_pt hy hb).1, (plus_pt hz hc).1,
    (plus_pt hp0 ha).1, (plus_pt hq0 hb).1, (plus_pt hr0 hc).1, vD.1, v1.1, v2.1, v3.1]
  have b0 := t0.2; have bD := vD.2; have b1 := v1.2; have b2 := v2.2; have b3 := v3.2
  clear t t0 t1 t2 t3 e0 vD v1 v2 v3
  generalize volP (d - a) (e - b) (f - c) (g - a) (h - b) (i - c) (x - a) (y - b) (z - c) = D at *
  generalize volP (p - a) (q - b) (r - c) (g - a) (h - b) (i - c) (x - a) (y - b) (z - c) = A1 at *
  generalize volP (d - a) (e - b) (f - c) (p - a) (q - b) (r - c) (x - a) (y - b) (z - c) = A2 at *
  generalize volP (d - a) (e - b) (f - c) (g - a) (h - b) (i - c) (p - a) (q - b) (r - c) = A3 at *
  unfold sm at b0 bD b1 b2 b3
  have key := abs_parts D A1 A2 A3 (sgF D) (by unfold sgF selF; by_cases hD : D < 0 <;> simp [hD])
  have hs : sgF D = -1 ∨ sgF D = 1 := by unfold sgF selF; by_cases hD : D < 0 <;> simp [hD]
  have c1 : w64 (sgF D * A1) = sgF D * A1 ∧ sm (sgF D * A1) 384000 := by rcases hs with hs | hs <;> rw [hs] <;> (unfold sm; rw [w64_in (by omega) (by omega)]; omega)
  have c2 : w64 (sgF D * A2) = sgF D * A2 ∧ sm (sgF D * A2) 384000 := by rcases hs with hs | hs <;> rw [hs] <;> (unfold sm; rw [w64_in (by omega) (by omega)]; omega)
  have c3 : w64 (sgF D * A3) = sgF D * A3 ∧ sm (sgF D * A3) 384000 := by rcases hs with hs | hs <;> rw [hs] <;> (unfold sm; rw [w64_in (by omega) (by omega)]; omega)
  rw [c1.1, c2.1, c3.1]
  have d1 := c1.2; have d2 := c2.2; have d3 := c3.2
  generalize sgF D * A1 = B1 at *
  generalize sgF D * A2 = B2 at *
  generalize sgF D * A3 = B3 at *
  unfold sm at d1 d2 d3
  rw [w64_in (n := B1 + B2) (by omega) (by omega), w64_in (n := B1 + B2 + B3) (by omega) (by omega)]
  rw [Int.zero_add, w64_in (n := ((D - A1 - A2 - A3).natAbs : Int)) (by omega) (by omega), w64_in (n := ((D - A1 - A2 - A3).natAbs : Int) + A1.natAbs) (by omega) (by omega),
    w64_in (n := ((D - A1 - A2 - A3).natAbs : Int) + A1.natAbs + A2.natAbs) (by omega) (by omega), w64_in (n := ((D - A1 - A2 - A3).natAbs : Int) + A1.natAbs + A2.natAbs + A3.natAbs) (by omega) (by omega)]
  rw [Bool.eq_iff_iff]
  simp only [Bool.and_eq_true, decide_eq_true_eq]
  rw [key]
  constructor
  · rintro ⟨⟨h1, h2, h3⟩, h4⟩; exact ⟨⟨⟨h1, h2⟩, h3⟩, h4⟩
  · rintro ⟨⟨⟨h1, h2⟩, h3⟩, h4⟩; exact ⟨⟨h1, h2, h3⟩, h4⟩

/-! ### Counting -/

def foldR (F : Int → Int → Int) : Nat → Int → Int → Int
  | 0, _, m => m
  | n + 1, z, m => foldR F n (z + 1) (F z m)
theorem foldR_congr {F G : Int → Int → Int} : ∀ (n : Nat) (z m : Int), (∀ k m, z ≤ k → k < z + n → F k m = G k m) → foldR F n z m = foldR G n z m
  | 0, _, _, _ => rfl
  | n + 1, z, m, h => by
    rw [foldR, foldR, h z m (by omega) (by omega)]
    exact foldR_congr n (z + 1) _ fun k m h1 h2 => h k m (by omega) (by omega)

def czF (p : Int → Int → Int → Bool) (lz hz x y m : Int) : Int := foldR (fun z m => if p x y z = true then w64 (m + 1) else m) (hz + 1 - lz).toNat lz m
def cyF (p : Int → Int → Int → Bool) (ly hy lz hz x m : Int) : Int := foldR (fun y m => czF p lz hz x y m) (hy + 1 - ly).toNat ly m
def cxF (p : Int → Int → Int → Bool) (lx hx ly hy lz hz m : Int) : Int := foldR (fun x m => cyF p ly hy lz hz x m) (hx + 1 - lx).toNat lx m

/-- The state of a loop that counts from lo to hi. -/
structure FoI (F : Int → Int → Int) (lo hi R z m : Int) : Prop where
  bl : -20 ≤ lo
  bh : hi ≤ 20
  zl : lo ≤ z
  zh : z ≤ hi + 1
  eq : foldR F (hi + 1 - z).toNat z m = R
theorem FoI.start {F : Int → Int → Int} {lo hi m : Int} (h1 : -20 ≤ lo) (h2 : hi ≤ 20) (h3 : lo ≤ hi) : FoI F lo hi (foldR F (hi + 1 - lo).toNat lo m) lo m := ⟨h1, h2, by omega, by omega, rfl⟩
theorem FoI.next {F : Int → Int → Int} {lo hi R z m m' : Int} (h : FoI F lo hi R z m) (hz : z ≤ hi) (hm : m' = F z m) : FoI F lo hi R (w64 (z + 1)) m' := by
  subst hm
  have h1 := h.bl; have h2 := h.bh; have h3 := h.zl
  rw [w64_in (by omega) (by omega)]
  refine ⟨h1, h2, by omega, by omega, ?_⟩
  rw [← h.eq, show (hi + 1 - z).toNat = (hi + 1 - (z + 1)).toNat + 1 by omega, foldR]
theorem FoI.mu {F : Int → Int → Int} {lo hi R z m : Int} (h : FoI F lo hi R z m) (hz : z ≤ hi) : (hi + 1 - w64 (z + 1)).toNat < (hi + 1 - z).toNat := by
  have h1 := h.bl; have h2 := h.bh; have h3 := h.zl
  rw [w64_in (by omega) (by omega)]; omega
theorem FoI.fin {F : Int → Int → Int} {lo hi R z m : Int} (h : FoI F lo hi R z m) (hz : ¬ z ≤ hi) : m = R := by
  have h1 := h.eq; have h3 := h.zh
  rw [show (hi + 1 - z).toNat = 0 by omega] at h1
  exact h1

theorem mini_self (a : Int) : mini a a = a := by unfold mini; split <;> rfl
theorem maxi_self (a : Int) : maxi a a = a := by unfold maxi; split <;> rfl
def lo4 (a d g x : Int) : Int := mini (mini (mini a d) g) x
def hi4 (a d g x : Int) : Int := maxi (maxi (maxi a d) g) x
theorem lohi {a d g x : Int} (h1 : sm a 20) (h2 : sm d 20) (h3 : sm g 20) (h4 : sm x 20) : -20 ≤ lo4 a d g x ∧ hi4 a d g x ≤ 20 ∧ lo4 a d g x ≤ hi4 a d g x := by
  unfold sm lo4 hi4 mini maxi at *
  split <;> split <;> split <;> split <;> split <;> split <;> omega
/-- How many spots of the smallest cuboid have the property. -/
def cntF (p : Int → Int → Int → Bool) (a b c d e f g h i x y z : Int) : Int :=
  cxF p (lo4 a d g x) (hi4 a d g x) (lo4 b e h y) (hi4 b e h y) (lo4 c f i z) (hi4 c f i z) 0
theorem TetOk.b0 {a b c d e f g h i x y z : Int} (k : TetOk a b c d e f g h i x y z) : -20 ≤ lo4 a d g x ∧ hi4 a d g x ≤ 20 ∧ lo4 a d g x ≤ hi4 a d g x :=
  lohi (isSpF_iff.1 k.s0).1 (isSpF_iff.1 k.s1).1 (isSpF_iff.1 k.s2).1 (isSpF_iff.1 k.s3).1
theorem TetOk.b1 {a b c d e f g h i x y z : Int} (k : TetOk a b c d e f g h i x y z) : -20 ≤ lo4 b e h y ∧ hi4 b e h y ≤ 20 ∧ lo4 b e h y ≤ hi4 b e h y :=
  lohi (isSpF_iff.1 k.s0).2.1 (isSpF_iff.1 k.s1).2.1 (isSpF_iff.1 k.s2).2.1 (isSpF_iff.1 k.s3).2.1
theorem TetOk.b2 {a b c d e f g h i x y z : Int} (k : TetOk a b c d e f g h i x y z) : -20 ≤ lo4 c f i z ∧ hi4 c f i z ≤ 20 ∧ lo4 c f i z ≤ hi4 c f i z :=
  lohi (isSpF_iff.1 k.s0).2.2 (isSpF_iff.1 k.s1).2.2 (isSpF_iff.1 k.s2).2.2 (isSpF_iff.1 k.s3).2.2
theorem cnt_same {a b c d e f g h i x y z : Int} (k : TetOk a b c d e f g h i x y z) : cntF (hasF a b c d e f g h i x y z) a b c d e f g h i x y z = cntF (insF a b c d e f g h i x y z) a b c d e f g h i x y z := by
  have h0 := k.b0; have h1 := k.b1; have h2 := k.b2
  unfold cntF cxF
  refine foldR_congr _ _ _ fun u m hu1 hu2 => ?_
  unfold cyF
  refine foldR_congr _ _ _ fun v m hv1 hv2 => ?_
  unfold czF
  refine foldR_congr _ _ _ fun w m hw1 hw2 => ?_
  rw [has_ins k (isSpF_iff.2 (by unfold sm; omega))]
def isTetF (a b c d e f g h i x y z : Int) : Bool := isSpF a b c && isSpF d e f && isSpF g h i && isSpF x y z && !decide (tvF a b c d e f g h i x y z = 0)
theorem tet_ok {a b c d e f g h i x y z : Int} (h1 : isTetF a b c d e f g h i x y z = true) : TetOk a b c d e f g h i x y z := by
  simp only [isTetF, Bool.and_eq_true] at h1
  exact ⟨h1.1.1.1.1, h1.1.1.1.2, h1.1.1.2, h1.1.2⟩

end Go.Ev
end

section
/-
  Contracts of functions of the program (printed by a program of this work; Lean checks each).
  Conditions: as each contract states.
-/
namespace Go.Proofs.Ytlkbfpklhncfbaa
open Go.Ev Go.RowKit
set_option maxRecDepth 100000
set_option linter.unusedVariables false
set_option linter.unusedSimpArgs false



end Go.Proofs.Ytlkbfpklhncfbaa
end

section
/-
  Contracts of functions of the program (printed by a program of this work; Lean checks each).
  Conditions: as each contract states.
-/
namespace Go.Proofs.Ytlkbfpklhncfbaa
open Go.Ev Go.RowKit
set_option maxRecDepth 100000
set_option linter.unusedVariables false
set_option linter.unusedSimpArgs false

set_option maxHeartbeats 1000000 in
theorem c_Pick_L {zs : List Int} {off n c : Nat} {o h : Int} {xs : List Int} (hz : n ≤ zs.length) (hb : ∀ z ∈ zs, IsByte z) (hn : n ≤ 4096) (ha : SrcAt n o) (hl : 1 ≤ xs.length) (hl2 : xs.length ≤ 100) : CallOK Try.prog n_spec_l01Pick [.pointer (some ⟨1, 0, none⟩), .slice (some ⟨2, 0, none⟩) xs.length xs.length] [(away off (bl zs), none), ([.slice (some ⟨0, off, none⟩) n c, ii o, wv h], some t_spec_l01Source), (il xs, none)] (fun v m_ => ∃ y o2 h2, SrcAt n o2 ∧ v = ii y ∧ m_ = [(away off (bl zs), none), ([.slice (some ⟨0, off, none⟩) n c, ii o2, wv h2], some t_spec_l01Source), (il xs, none)]) := by
  refine callOK_ofF good fn_spec_l01Pick ?_
  conv => whnf
  all_goals (repeat' first
    | (refine CallOK.useD (c_Next_L hz hb hn (by assumption)) [0, 1] rfl rfl rfl ⟨⟨⟨_, rfl, .lit (away_conc (bl_plain _) _).symm (fun _ h_ => by cases h_) (away_ok (bl_plain _) _)⟩⟩, ⟨⟨_, rfl, .lit rfl (fun _ h_ => h_) (fun v hv => okB0_spec (allL_spec rfl v hv))⟩⟩, trivial⟩ (fun v_ mem_ hR => ?_); obtain ⟨x_, o_, h_, hx_, ha_, rfl, rfl⟩ := hR; refine ⟨rfl, ii x_, fun _ => rfl, ?_⟩; (conv => whnf); refine mapK_eval (cs' := [.slice (some ⟨0, off, none⟩) n c, ii o_, wv h_]) rfl ?_; conv => whnf)
    | (refine br_in (i := x_) (n := xs.length) ?_ ?_ ?_; (focus (have := hx_ (by omega); omega)); (focus (have := hx_ (by omega); omega)); conv => whnf)
    | (refine force_eq (take_il0 (xs := xs) (i := x_.toNat) ?_ ?_) ?_; (focus (simp only [Nat.mul_one, Nat.zero_add]; done)); (focus (have := hx_ (by omega); omega)); conv => whnf)
    | (show OutK _ _ _ _; (exact out_forget [] ⟨_, _, _, ha_, rfl, rfl⟩ rfl (okB2_spec rfl) ⟨⟨⟨_, rfl, .lit (away_conc (bl_plain _) _).symm rfl (away_ok (bl_plain _) _)⟩⟩, ⟨⟨_, rfl, .lit rfl rfl (fun v hv => okB0_spec (allL_spec rfl v hv))⟩⟩, ⟨⟨_, rfl, .plain rfl rfl (il_plain _)⟩⟩, trivial⟩ rfl rfl))
    | (refine StoreK.mk rfl ?_; conv => whnf)
    | exact join_same
    | exact (by assumption : (_ : Bool) = (_ : Bool))
    | (refine br_true (by assumption) ?_; conv => whnf)
    | (refine br_false (by assumption) ?_; conv => whnf)
    | (refine br_not ?_; conv => whnf)
    | (refine br_code ?_; conv => whnf)
    | (with_reducible refine br_and ?_; conv => whnf)
    | (with_reducible refine br_or ?_; conv => whnf)
    | (refine br_eq2 ?_; conv => whnf)
    | (refine draw_auto (by decide +kernel) ?_; conv => whnf)
    | (refine draw_asg (by decide +kernel) ?_; conv => whnf)
    | (refine draw_st (by decide +kernel) ?_; conv => whnf)
    | (refine draw_call (by decide +kernel) ?_; conv => whnf)
    | (refine enter_same (loop_n 12 ?_); conv => whnf)
    | (refine next_same ?_; conv => whnf)
    | (refine mapK_row (by assumption) ?_; conv => whnf)
    | (refine mapK_plain (Plain.of rfl) ?_; conv => whnf)
    | (refine mapK_lit ?_; conv => whnf)
    | (refine br_split (fun _ => ?_) (fun _ => ?_) <;> conv => whnf)
    | exact (rfl : (_ : Value) = _)
    | (simp only [*]; exact (rfl : (_ : Value) = _))
    | (simp [*]; done))

set_option maxHeartbeats 1000000 in
theorem c_Pick_N  {o h : Int} {xs : List Int}  (ha : SrcAt 0 o) (hl : 1 ≤ xs.length) (hl2 : xs.length ≤ 100) : CallOK Try.prog n_spec_l01Pick [.pointer (some ⟨0, 0, none⟩), .slice (some ⟨1, 0, none⟩) xs.length xs.length] [([.slice none 0 0, ii o, wv h], some t_spec_l01Source), (il xs, none)] (fun v m_ => ∃ y o2 h2, SrcAt 0 o2 ∧ v = ii y ∧ m_ = [([.slice none 0 0, ii o2, wv h2], some t_spec_l01Source), (il xs, none)]) := by
  refine callOK_ofF good fn_spec_l01Pick ?_
  conv => whnf
  all_goals (repeat' first
    | (refine CallOK.useD (c_Next_N (by assumption)) [0] rfl rfl rfl ⟨⟨⟨_, rfl, .lit rfl (fun _ h_ => h_) (fun v hv => okB0_spec (allL_spec rfl v hv))⟩⟩, trivial⟩ (fun v_ mem_ hR => ?_); obtain ⟨x_, o_, h_, hx_, ha_, rfl, rfl⟩ := hR; refine ⟨rfl, ii x_, fun _ => rfl, ?_⟩; (conv => whnf); refine mapK_eval (cs' := [.slice none 0 0, ii o_, wv h_]) rfl ?_; conv => whnf)
    | (refine br_in (i := x_) (n := xs.length) ?_ ?_ ?_; (focus (have := hx_ (by omega); omega)); (focus (have := hx_ (by omega); omega)); conv => whnf)
    | (refine force_eq (take_il0 (xs := xs) (i := x_.toNat) ?_ ?_) ?_; (focus (simp only [Nat.mul_one, Nat.zero_add]; done)); (focus (have := hx_ (by omega); omega)); conv => whnf)
    | (show OutK _ _ _ _; (exact out_forget [] ⟨_, _, _, ha_, rfl, rfl⟩ rfl (okB2_spec rfl) ⟨⟨⟨_, rfl, .lit rfl rfl (fun v hv => okB0_spec (allL_spec rfl v hv))⟩⟩, ⟨⟨_, rfl, .plain rfl rfl (il_plain _)⟩⟩, trivial⟩ rfl rfl))
    | (refine StoreK.mk rfl ?_; conv => whnf)
    | exact join_same
    | exact (by assumption : (_ : Bool) = (_ : Bool))
    | (refine br_true (by assumption) ?_; conv => whnf)
    | (refine br_false (by assumption) ?_; conv => whnf)
    | (refine br_not ?_; conv => whnf)
    | (refine br_code ?_; conv => whnf)
    | (with_reducible refine br_and ?_; conv => whnf)
    | (with_reducible refine br_or ?_; conv => whnf)
    | (refine br_eq2 ?_; conv => whnf)
    | (refine draw_auto (by decide +kernel) ?_; conv => whnf)
    | (refine draw_asg (by decide +kernel) ?_; conv => whnf)
    | (refine draw_st (by decide +kernel) ?_; conv => whnf)
    | (refine draw_call (by decide +kernel) ?_; conv => whnf)
    | (refine enter_same (loop_n 12 ?_); conv => whnf)
    | (refine next_same ?_; conv => whnf)
    | (refine mapK_row (by assumption) ?_; conv => whnf)
    | (refine mapK_plain (Plain.of rfl) ?_; conv => whnf)
    | (refine mapK_lit ?_; conv => whnf)
    | (refine br_split (fun _ => ?_) (fun _ => ?_) <;> conv => whnf)
    | exact (rfl : (_ : Value) = _)
    | (simp only [*]; exact (rfl : (_ : Value) = _))
    | (simp [*]; done))

end Go.Proofs.Ytlkbfpklhncfbaa
end

section
/-
  Draws of points, matrices and corners: what is told of them, so that the draws' loops end. Conditions: none.
-/
set_option linter.unusedVariables false
set_option linter.unusedSimpArgs false
namespace Go.Ev
open Go.RowKit

theorem draw_sm {m x y : Int} (hx : Below1 (w64 (w64 (2 * m) + 1)) x) (hy : Below1 (w64 (w64 (2 * m) + 1)) y) : 1 ≤ m → m ≤ 900 → sm (w64 (x - m)) 900 ∧ sm (w64 (y - m)) 900 := by
  intro h1 h2
  unfold Below1 at hx hy
  rw [w64_in (n := 2 * m) (by omega) (by omega), w64_in (n := 2 * m + 1) (by omega) (by omega)] at hx hy
  have := hx (by omega); have := hy (by omega)
  unfold sm
  rw [w64_in (n := x - m) (by omega) (by omega), w64_in (n := y - m) (by omega) (by omega)]
  omega
theorem nz_a {x y : Int} (h : decide (x = 0) = false) : ¬ (x = 0 ∧ y = 0) := fun h1 => of_decide_eq_false h h1.1
theorem nz_b {x y : Int} (h : decide (y = 0) = false) : ¬ (x = 0 ∧ y = 0) := fun h1 => of_decide_eq_false h h1.2
theorem part_g {a b : Int} (h : sm a 900 ∧ sm b 900) : gcdF a b = (Int.gcd a b : Int) := by
  obtain ⟨h1, h2⟩ := h
  unfold sm at h1 h2
  exact gcdF_eq (by omega) (by omega)
theorem part_nz {a b : Int} (h : sm a 900 ∧ sm b 900) (h0 : ¬ (a = 0 ∧ b = 0)) : decide (gcdF a b = 0) = false := by
  obtain ⟨h1, h2⟩ := h
  unfold sm at h1 h2
  exact decide_eq_false fun he => h0 ((gcdF_zero (by omega) (by omega)).1 he)
/-- A point that is not none, with small numbers. -/
structure Prm (x y : Int) : Prop where
  sx : sm x 900
  sy : sm y 900
  nz : ¬ (x = 0 ∧ y = 0)
theorem prm_10 : Prm 1 0 := ⟨by unfold sm; omega, by unfold sm; omega, by omega⟩
theorem part_ok {a b : Int} (h : sm a 900 ∧ sm b 900) (h0 : ¬ (a = 0 ∧ b = 0)) : Prm (w64 (a.tdiv (gcdF a b))) (w64 (b.tdiv (gcdF a b))) := by
  rw [part_g h]
  obtain ⟨h1, h2⟩ := h
  unfold sm at h1 h2
  have hg : ((Int.gcd a b : Nat) : Int) ≠ 0 := by
    intro he
    have : Int.gcd a b = 0 := by omega
    exact h0 (Int.gcd_eq_zero_iff.1 this)
  have e1 : ((Int.gcd a b : Nat) : Int) ∣ a := Int.gcd_dvd_left ..
  have e2 : ((Int.gcd a b : Nat) : Int) ∣ b := Int.gcd_dvd_right ..
  generalize ((Int.gcd a b : Nat) : Int) = g at *
  obtain ⟨p, rfl⟩ := e1
  obtain ⟨q, rfl⟩ := e2
  rw [Int.mul_tdiv_cancel_left _ hg, Int.mul_tdiv_cancel_left _ hg]
  have bp : p.natAbs ≤ (g * p).natAbs := by
    rw [Int.natAbs_mul]
    have : 1 * p.natAbs ≤ g.natAbs * p.natAbs := Nat.mul_le_mul_right _ (by omega)
    omega
  have bq : q.natAbs ≤ (g * q).natAbs := by
    rw [Int.natAbs_mul]
    have : 1 * q.natAbs ≤ g.natAbs * q.natAbs := Nat.mul_le_mul_right _ (by omega)
    omega
  rw [w64_in (by omega) (by omega), w64_in (by omega) (by omega)]
  refine ⟨by unfold sm; omega, by unfold sm; omega, fun h => h0 ?_⟩
  rw [h.1, h.2]; simp
theorem most_in {y : Int} (h : y ∈ [3, 5, 9, 30, 900]) : 1 ≤ y ∧ y ≤ 900 := by
  simp only [List.mem_cons, List.not_mem_nil, or_false] at h
  omega
theorem sq_nn (a : Int) : 0 ≤ a * a := by
  rcases Int.le_total 0 a with h | h
  · exact Int.mul_nonneg h h
  · exact Int.mul_nonneg_of_nonpos_of_nonpos h h
/-- One turn makes the determinant other than 0. -/
theorem turn_nz {a b : Int} (h : Prm a b) : detF a b (w64 (0 - b)) a ≠ 0 := by
  obtain ⟨h1, h2, h3⟩ := h
  have h4 := sm_mul h1 h1 (by omega); have h5 := sm_mul h2 h2 (by omega)
  unfold sm at h1 h2 h4 h5
  rw [w64_in (n := 0 - b) (by omega) (by omega)]
  unfold detF
  have e : b * (0 - b) = -(b * b) := by rw [Int.mul_sub]; omega
  rw [e, w64_in (n := a * a) (by omega) (by omega), w64_in (n := -(b * b)) (by omega) (by omega), w64_in (by omega) (by omega)]
  have p1 : 0 ≤ a * a := sq_nn a
  have p2 : 0 ≤ b * b := sq_nn b
  intro he
  have q1 : a * a = 0 := by omega
  have q2 : b * b = 0 := by omega
  exact h3 ⟨by rcases Int.mul_eq_zero.1 q1 with h | h <;> exact h, by rcases Int.mul_eq_zero.1 q2 with h | h <;> exact h⟩
def detMu (a b c d : Int) : Nat := if detF a b c d = 0 then 1 else 0
theorem turn_mu {a b c d : Int} (h : Prm a b) (h0 : decide (detF a b c d = 0) = true) : detMu a b (w64 (0 - b)) a < detMu a b c d := by
  unfold detMu
  rw [if_pos (of_decide_eq_true h0), if_neg (turn_nz h)]
  omega
/-- A sine and a cosine that may be none. -/
structure ScI (s c : Int) : Prop where
  s1 : 1 ≤ s
  s2 : s ≤ 40
  c1 : 1 ≤ c
  c2 : c ≤ s
theorem ScI.start {x : Int} (h : Below1 40 x) : ScI (w64 (1 + x)) 1 := by
  have := h (by omega)
  rw [w64_in (by omega) (by omega)]
  exact ⟨by omega, by omega, by omega, by omega⟩
theorem ScI.nz {s c : Int} (h : ScI s c) : decide (s = 0) = false := decide_eq_false (by have := h.s1; omega)
theorem ScI.next {s c : Int} (h : ScI s c) : ScI s (w64 (c.tmod s + 1)) := by
  obtain ⟨h1, h2, h3, h4⟩ := h
  rw [tmod_pos (by omega)]
  have := Int.emod_nonneg c (show s ≠ 0 by omega)
  have := Int.emod_lt_of_pos c (show 0 < s by omega)
  rw [w64_in (by omega) (by omega)]
  exact ⟨by omega, by omega, by omega, by omega⟩
theorem ScI.down {s c : Int} (h : ScI s c) (hg : decide (gcdF s c = 1) = false) : ScI s (w64 (c - 1)) ∧ (w64 (c - 1)).toNat < c.toNat := by
  obtain ⟨h1, h2, h3, h4⟩ := h
  have : c ≠ 1 := by
    rintro rfl
    refine of_decide_eq_false hg ?_
    rw [gcdF_eq (by omega) (by omega), Int.gcd_one]; rfl
  rw [w64_in (by omega) (by omega)]
  exact ⟨⟨by omega, by omega, by omega, by omega⟩, by omega⟩
theorem cnt_down {n : Int} {B : Int} (hB : B ≤ 1000) (h : 0 ≤ n ∧ n ≤ B) (h0 : decide (n > 0) = true) : (0 ≤ w64 (n - 1) ∧ w64 (n - 1) ≤ B) ∧ (w64 (n - 1)).toNat < n.toNat := by
  have := of_decide_eq_true h0
  rw [w64_in (by omega) (by omega)]
  omega
theorem two_of {x : Int} (h : Below1 2 x) : x = 0 ∨ x = 1 := by
  have := h (by omega)
  omega

end Go.Ev
end

section
/-
  Contracts of functions of the program (printed by a program of this work; Lean checks each).
  Conditions: as each contract states.
-/
namespace Go.Proofs.Ytlkbfpklhncfbaa
open Go.Ev Go.RowKit
set_option maxRecDepth 100000
set_option linter.unusedVariables false
set_option linter.unusedSimpArgs false

set_option maxHeartbeats 1000000 in
theorem c_PickM_L {zs : List Int} {off n c : Nat} {o h : Int} {xs : List Int} (hz : n ≤ zs.length) (hb : ∀ z ∈ zs, IsByte z) (hn : n ≤ 4096) (ha : SrcAt n o) (hl : 1 ≤ xs.length) (hl2 : xs.length ≤ 100) : CallOK Try.prog n_spec_l01Pick [.pointer (some ⟨1, 0, none⟩), .slice (some ⟨2, 0, none⟩) xs.length xs.length] [(away off (bl zs), none), ([.slice (some ⟨0, off, none⟩) n c, ii o, wv h], some t_spec_l01Source), (il xs, none)] (fun v m_ => ∃ y o2 h2, y ∈ xs ∧ SrcAt n o2 ∧ v = ii y ∧ m_ = [(away off (bl zs), none), ([.slice (some ⟨0, off, none⟩) n c, ii o2, wv h2], some t_spec_l01Source), (il xs, none)]) := by
  refine callOK_ofF good fn_spec_l01Pick ?_
  conv => whnf
  all_goals (repeat' first
    | (refine CallOK.useD (c_Next_L hz hb hn (by assumption)) [0, 1] rfl rfl rfl ⟨⟨⟨_, rfl, .lit (away_conc (bl_plain _) _).symm (fun _ h_ => by cases h_) (away_ok (bl_plain _) _)⟩⟩, ⟨⟨_, rfl, .lit rfl (fun _ h_ => h_) (fun v hv => okB0_spec (allL_spec rfl v hv))⟩⟩, trivial⟩ (fun v_ mem_ hR => ?_); obtain ⟨x_, o_, h_, hx_, ha_, rfl, rfl⟩ := hR; refine ⟨rfl, ii x_, fun _ => rfl, ?_⟩; (conv => whnf); refine mapK_eval (cs' := [.slice (some ⟨0, off, none⟩) n c, ii o_, wv h_]) rfl ?_; conv => whnf)
    | (refine br_in (i := x_) (n := xs.length) ?_ ?_ ?_; (focus (have := hx_ (by omega); omega)); (focus (have := hx_ (by omega); omega)); conv => whnf)
    | (refine force_eq (take_il0 (xs := xs) (i := x_.toNat) ?_ ?_) ?_; (focus (simp only [Nat.mul_one, Nat.zero_add]; done)); (focus (have := hx_ (by omega); omega)); conv => whnf)
    | (show OutK _ _ _ _; have hy_ : xs.getD x_.toNat 0 ∈ xs := (getD_mem (show x_.toNat < xs.length from (by have := hx_ (by omega); omega))); (exact out_forget [] ⟨_, _, _, hy_, ha_, rfl, rfl⟩ rfl (okB2_spec rfl) ⟨⟨⟨_, rfl, .lit (away_conc (bl_plain _) _).symm rfl (away_ok (bl_plain _) _)⟩⟩, ⟨⟨_, rfl, .lit rfl rfl (fun v hv => okB0_spec (allL_spec rfl v hv))⟩⟩, ⟨⟨_, rfl, .plain rfl rfl (il_plain _)⟩⟩, trivial⟩ rfl rfl))
    | (refine StoreK.mk rfl ?_; conv => whnf)
    | exact join_same
    | exact (by assumption : (_ : Bool) = (_ : Bool))
    | (refine br_true (by assumption) ?_; conv => whnf)
    | (refine br_false (by assumption) ?_; conv => whnf)
    | (refine br_not ?_; conv => whnf)
    | (refine br_code ?_; conv => whnf)
    | (with_reducible refine br_and ?_; conv => whnf)
    | (with_reducible refine br_or ?_; conv => whnf)
    | (refine br_eq2 ?_; conv => whnf)
    | (refine draw_auto (by decide +kernel) ?_; conv => whnf)
    | (refine draw_asg (by decide +kernel) ?_; conv => whnf)
    | (refine draw_st (by decide +kernel) ?_; conv => whnf)
    | (refine draw_call (by decide +kernel) ?_; conv => whnf)
    | (refine enter_same (loop_n 12 ?_); conv => whnf)
    | (refine next_same ?_; conv => whnf)
    | (refine mapK_row (by assumption) ?_; conv => whnf)
    | (refine mapK_plain (Plain.of rfl) ?_; conv => whnf)
    | (refine mapK_lit ?_; conv => whnf)
    | (refine br_split (fun _ => ?_) (fun _ => ?_) <;> conv => whnf)
    | exact (rfl : (_ : Value) = _)
    | (simp only [*]; exact (rfl : (_ : Value) = _))
    | (simp [*]; done))

set_option maxHeartbeats 1000000 in
theorem c_DrawPoint_L {zs : List Int} {off n c : Nat} {o h m : Int} (hz : n ≤ zs.length) (hb : ∀ z ∈ zs, IsByte z) (hn : n ≤ 4096) (ha : SrcAt n o) : CallOK Try.prog n_spec_l01DrawPoint [.pointer (some ⟨1, 0, none⟩), ii m] [(away off (bl zs), none), ([.slice (some ⟨0, off, none⟩) n c, ii o, wv h], some t_spec_l01Source)] (fun v m_ => ∃ x y o2 h2, (1 ≤ m → m ≤ 900 → sm x 900 ∧ sm y 900) ∧ SrcAt n o2 ∧ v = pt x y ∧ m_ = [(away off (bl zs), none), ([.slice (some ⟨0, off, none⟩) n c, ii o2, wv h2], some t_spec_l01Source)]) := by
  refine callOK_ofF good fn_spec_l01DrawPoint ?_
  conv => whnf
  all_goals (repeat' first
    | (refine CallOK.useD (c_Next_L hz hb hn (by assumption)) [0, 1] rfl rfl rfl ⟨⟨⟨_, rfl, .lit (away_conc (bl_plain _) _).symm (fun _ h_ => by cases h_) (away_ok (bl_plain _) _)⟩⟩, ⟨⟨_, rfl, .lit rfl (fun _ h_ => h_) (fun v hv => okB0_spec (allL_spec rfl v hv))⟩⟩, trivial⟩ (fun v_ mem_ hR => ?_); obtain ⟨x1_, o_, h_, hx1_, ha_, rfl, rfl⟩ := hR; refine ⟨rfl, ii x1_, fun _ => rfl, ?_⟩; (conv => whnf); refine mapK_eval (cs' := [.slice (some ⟨0, off, none⟩) n c, ii o_, wv h_]) rfl ?_; conv => whnf)
    | (show OutK _ _ _ _; (exact out_forget [] ⟨_, _, _, _, draw_sm (by assumption) (by assumption), ha_, rfl, rfl⟩ rfl (okB2_spec rfl) ⟨⟨⟨_, rfl, .lit (away_conc (bl_plain _) _).symm rfl (away_ok (bl_plain _) _)⟩⟩, ⟨⟨_, rfl, .lit rfl rfl (fun v hv => okB0_spec (allL_spec rfl v hv))⟩⟩, trivial⟩ rfl rfl))
    | (refine StoreK.mk rfl ?_; conv => whnf)
    | exact join_same
    | exact (by assumption : (_ : Bool) = (_ : Bool))
    | (refine br_true (by assumption) ?_; conv => whnf)
    | (refine br_false (by assumption) ?_; conv => whnf)
    | (refine br_not ?_; conv => whnf)
    | (refine br_code ?_; conv => whnf)
    | (with_reducible refine br_and ?_; conv => whnf)
    | (with_reducible refine br_or ?_; conv => whnf)
    | (refine br_eq2 ?_; conv => whnf)
    | (refine draw_auto (by decide +kernel) ?_; conv => whnf)
    | (refine draw_asg (by decide +kernel) ?_; conv => whnf)
    | (refine draw_st (by decide +kernel) ?_; conv => whnf)
    | (refine draw_call (by decide +kernel) ?_; conv => whnf)
    | (refine enter_same (loop_n 12 ?_); conv => whnf)
    | (refine next_same ?_; conv => whnf)
    | (refine mapK_row (by assumption) ?_; conv => whnf)
    | (refine mapK_plain (Plain.of rfl) ?_; conv => whnf)
    | (refine mapK_lit ?_; conv => whnf)
    | (refine br_split (fun _ => ?_) (fun _ => ?_) <;> conv => whnf)
    | exact (rfl : (_ : Value) = _)
    | (simp only [*]; exact (rfl : (_ : Value) = _))
    | (simp [*]; done))

set_option maxHeartbeats 1000000 in
theorem c_PickM_N  {o h : Int} {xs : List Int}  (ha : SrcAt 0 o) (hl : 1 ≤ xs.length) (hl2 : xs.length ≤ 100) : CallOK Try.prog n_spec_l01Pick [.pointer (some ⟨0, 0, none⟩), .slice (some ⟨1, 0, none⟩) xs.length xs.length] [([.slice none 0 0, ii o, wv h], some t_spec_l01Source), (il xs, none)] (fun v m_ => ∃ y o2 h2, y ∈ xs ∧ SrcAt 0 o2 ∧ v = ii y ∧ m_ = [([.slice none 0 0, ii o2, wv h2], some t_spec_l01Source), (il xs, none)]) := by
  refine callOK_ofF good fn_spec_l01Pick ?_
  conv => whnf
  all_goals (repeat' first
    | (refine CallOK.useD (c_Next_N (by assumption)) [0] rfl rfl rfl ⟨⟨⟨_, rfl, .lit rfl (fun _ h_ => h_) (fun v hv => okB0_spec (allL_spec rfl v hv))⟩⟩, trivial⟩ (fun v_ mem_ hR => ?_); obtain ⟨x_, o_, h_, hx_, ha_, rfl, rfl⟩ := hR; refine ⟨rfl, ii x_, fun _ => rfl, ?_⟩; (conv => whnf); refine mapK_eval (cs' := [.slice none 0 0, ii o_, wv h_]) rfl ?_; conv => whnf)
    | (refine br_in (i := x_) (n := xs.length) ?_ ?_ ?_; (focus (have := hx_ (by omega); omega)); (focus (have := hx_ (by omega); omega)); conv => whnf)
    | (refine force_eq (take_il0 (xs := xs) (i := x_.toNat) ?_ ?_) ?_; (focus (simp only [Nat.mul_one, Nat.zero_add]; done)); (focus (have := hx_ (by omega); omega)); conv => whnf)
    | (show OutK _ _ _ _; have hy_ : xs.getD x_.toNat 0 ∈ xs := (getD_mem (show x_.toNat < xs.length from (by have := hx_ (by omega); omega))); (exact out_forget [] ⟨_, _, _, hy_, ha_, rfl, rfl⟩ rfl (okB2_spec rfl) ⟨⟨⟨_, rfl, .lit rfl rfl (fun v hv => okB0_spec (allL_spec rfl v hv))⟩⟩, ⟨⟨_, rfl, .plain rfl rfl (il_plain _)⟩⟩, trivial⟩ rfl rfl))
    | (refine StoreK.mk rfl ?_; conv => whnf)
    | exact join_same
    | exact (by assumption : (_ : Bool) = (_ : Bool))
    | (refine br_true (by assumption) ?_; conv => whnf)
    | (refine br_false (by assumption) ?_; conv => whnf)
    | (refine br_not ?_; conv => whnf)
    | (refine br_code ?_; conv => whnf)
    | (with_reducible refine br_and ?_; conv => whnf)
    | (with_reducible refine br_or ?_; conv => whnf)
    | (refine br_eq2 ?_; conv => whnf)
    | (refine draw_auto (by decide +kernel) ?_; conv => whnf)
    | (refine draw_asg (by decide +kernel) ?_; conv => whnf)
    | (refine draw_st (by decide +kernel) ?_; conv => whnf)
    | (refine draw_call (by decide +kernel) ?_; conv => whnf)
    | (refine enter_same (loop_n 12 ?_); conv => whnf)
    | (refine next_same ?_; conv => whnf)
    | (refine mapK_row (by assumption) ?_; conv => whnf)
    | (refine mapK_plain (Plain.of rfl) ?_; conv => whnf)
    | (refine mapK_lit ?_; conv => whnf)
    | (refine br_split (fun _ => ?_) (fun _ => ?_) <;> conv => whnf)
    | exact (rfl : (_ : Value) = _)
    | (simp only [*]; exact (rfl : (_ : Value) = _))
    | (simp [*]; done))

set_option maxHeartbeats 1000000 in
theorem c_DrawPoint_N  {o h m : Int}  (ha : SrcAt 0 o) : CallOK Try.prog n_spec_l01DrawPoint [.pointer (some ⟨0, 0, none⟩), ii m] [([.slice none 0 0, ii o, wv h], some t_spec_l01Source)] (fun v m_ => ∃ x y o2 h2, (1 ≤ m → m ≤ 900 → sm x 900 ∧ sm y 900) ∧ SrcAt 0 o2 ∧ v = pt x y ∧ m_ = [([.slice none 0 0, ii o2, wv h2], some t_spec_l01Source)]) := by
  refine callOK_ofF good fn_spec_l01DrawPoint ?_
  conv => whnf
  all_goals (repeat' first
    | (refine CallOK.useD (c_Next_N (by assumption)) [0] rfl rfl rfl ⟨⟨⟨_, rfl, .lit rfl (fun _ h_ => h_) (fun v hv => okB0_spec (allL_spec rfl v hv))⟩⟩, trivial⟩ (fun v_ mem_ hR => ?_); obtain ⟨x1_, o_, h_, hx1_, ha_, rfl, rfl⟩ := hR; refine ⟨rfl, ii x1_, fun _ => rfl, ?_⟩; (conv => whnf); refine mapK_eval (cs' := [.slice none 0 0, ii o_, wv h_]) rfl ?_; conv => whnf)
    | (show OutK _ _ _ _; (exact out_forget [] ⟨_, _, _, _, draw_sm (by assumption) (by assumption), ha_, rfl, rfl⟩ rfl (okB2_spec rfl) ⟨⟨⟨_, rfl, .lit rfl rfl (fun v hv => okB0_spec (allL_spec rfl v hv))⟩⟩, trivial⟩ rfl rfl))
    | (refine StoreK.mk rfl ?_; conv => whnf)
    | exact join_same
    | exact (by assumption : (_ : Bool) = (_ : Bool))
    | (refine br_true (by assumption) ?_; conv => whnf)
    | (refine br_false (by assumption) ?_; conv => whnf)
    | (refine br_not ?_; conv => whnf)
    | (refine br_code ?_; conv => whnf)
    | (with_reducible refine br_and ?_; conv => whnf)
    | (with_reducible refine br_or ?_; conv => whnf)
    | (refine br_eq2 ?_; conv => whnf)
    | (refine draw_auto (by decide +kernel) ?_; conv => whnf)
    | (refine draw_asg (by decide +kernel) ?_; conv => whnf)
    | (refine draw_st (by decide +kernel) ?_; conv => whnf)
    | (refine draw_call (by decide +kernel) ?_; conv => whnf)
    | (refine enter_same (loop_n 12 ?_); conv => whnf)
    | (refine next_same ?_; conv => whnf)
    | (refine mapK_row (by assumption) ?_; conv => whnf)
    | (refine mapK_plain (Plain.of rfl) ?_; conv => whnf)
    | (refine mapK_lit ?_; conv => whnf)
    | (refine br_split (fun _ => ?_) (fun _ => ?_) <;> conv => whnf)
    | exact (rfl : (_ : Value) = _)
    | (simp only [*]; exact (rfl : (_ : Value) = _))
    | (simp [*]; done))

set_option maxHeartbeats 1000000 in
theorem c_DrawPrim_L {zs : List Int} {off n c : Nat} {o h m : Int} (hz : n ≤ zs.length) (hb : ∀ z ∈ zs, IsByte z) (hn : n ≤ 4096) (ha : SrcAt n o) (hm1 : 1 ≤ m) (hm2 : m ≤ 900) : CallOK Try.prog n_spec_l01DrawPrimitive [.pointer (some ⟨1, 0, none⟩), ii m] [(away off (bl zs), none), ([.slice (some ⟨0, off, none⟩) n c, ii o, wv h], some t_spec_l01Source)] (fun v m_ => ∃ x y o2 h2, Prm x y ∧ SrcAt n o2 ∧ v = pt x y ∧ m_ = [(away off (bl zs), none), ([.slice (some ⟨0, off, none⟩) n c, ii o2, wv h2], some t_spec_l01Source)]) := by
  refine callOK_ofF good fn_spec_l01DrawPrimitive ?_
  conv => whnf
  all_goals (repeat' first
    | (refine part_nz (hp_ hm1 hm2) (nz_a ?_); assumption)
    | (refine part_nz (hp_ hm1 hm2) (nz_b ?_); assumption)
    | (refine CallOK.useD (c_DrawPoint_L hz hb hn (by assumption)) [0, 1] rfl rfl rfl ⟨⟨⟨_, rfl, .lit (away_conc (bl_plain _) _).symm (fun _ h_ => by cases h_) (away_ok (bl_plain _) _)⟩⟩, ⟨⟨_, rfl, .lit rfl (fun _ h_ => h_) (fun v hv => okB0_spec (allL_spec rfl v hv))⟩⟩, trivial⟩ (fun v_ mem_ hR => ?_); obtain ⟨px_, py_, o_, h_, hp_, ha_, rfl, rfl⟩ := hR; refine ⟨rfl, pt px_ py_, fun _ => rfl, ?_⟩; (conv => whnf); refine mapK_eval (cs' := [.slice (some ⟨0, off, none⟩) n c, ii o_, wv h_]) rfl ?_; conv => whnf)
    | (show OutK _ _ _ _; rename decide (py_ = 0) = true => q0_; (exact out_forget [] ⟨_, _, _, _, prm_10, ha_, rfl, rfl⟩ rfl (okB2_spec rfl) ⟨⟨⟨_, rfl, .lit (away_conc (bl_plain _) _).symm rfl (away_ok (bl_plain _) _)⟩⟩, ⟨⟨_, rfl, .lit rfl rfl (fun v hv => okB0_spec (allL_spec rfl v hv))⟩⟩, trivial⟩ rfl rfl))
    | (show OutK _ _ _ _; rename decide (px_ = 0) = false => q0_; (exact out_forget [] ⟨_, _, _, _, part_ok (hp_ hm1 hm2) (nz_a q0_), ha_, rfl, rfl⟩ rfl (okB2_spec rfl) ⟨⟨⟨_, rfl, .lit (away_conc (bl_plain _) _).symm rfl (away_ok (bl_plain _) _)⟩⟩, ⟨⟨_, rfl, .lit rfl rfl (fun v hv => okB0_spec (allL_spec rfl v hv))⟩⟩, trivial⟩ rfl rfl))
    | (show OutK _ _ _ _; rename decide (py_ = 0) = false => q0_; (exact out_forget [] ⟨_, _, _, _, part_ok (hp_ hm1 hm2) (nz_b q0_), ha_, rfl, rfl⟩ rfl (okB2_spec rfl) ⟨⟨⟨_, rfl, .lit (away_conc (bl_plain _) _).symm rfl (away_ok (bl_plain _) _)⟩⟩, ⟨⟨_, rfl, .lit rfl rfl (fun v hv => okB0_spec (allL_spec rfl v hv))⟩⟩, trivial⟩ rfl rfl))
    | (refine StoreK.mk rfl ?_; conv => whnf)
    | exact join_same
    | exact (by assumption : (_ : Bool) = (_ : Bool))
    | (refine br_true (by assumption) ?_; conv => whnf)
    | (refine br_false (by assumption) ?_; conv => whnf)
    | (refine br_not ?_; conv => whnf)
    | (refine br_code ?_; conv => whnf)
    | (with_reducible refine br_and ?_; conv => whnf)
    | (with_reducible refine br_or ?_; conv => whnf)
    | (refine br_eq2 ?_; conv => whnf)
    | (refine (c_spec_l01Part ?_).call ?_ <;> conv => whnf)
    | (refine (c_spec_l01Part ?_).quiet ?_ <;> conv => whnf)
    | (refine draw_auto (by decide +kernel) ?_; conv => whnf)
    | (refine draw_asg (by decide +kernel) ?_; conv => whnf)
    | (refine draw_st (by decide +kernel) ?_; conv => whnf)
    | (refine draw_call (by decide +kernel) ?_; conv => whnf)
    | (refine enter_same (loop_n 12 ?_); conv => whnf)
    | (refine next_same ?_; conv => whnf)
    | (refine mapK_row (by assumption) ?_; conv => whnf)
    | (refine mapK_plain (Plain.of rfl) ?_; conv => whnf)
    | (refine mapK_lit ?_; conv => whnf)
    | (refine br_split (fun _ => ?_) (fun _ => ?_) <;> conv => whnf)
    | exact (rfl : (_ : Value) = _)
    | (simp only [*]; exact (rfl : (_ : Value) = _))
    | (simp [*]; done))

set_option maxHeartbeats 1000000 in
theorem c_DrawPrim_N  {o h m : Int}  (ha : SrcAt 0 o) (hm1 : 1 ≤ m) (hm2 : m ≤ 900) : CallOK Try.prog n_spec_l01DrawPrimitive [.pointer (some ⟨0, 0, none⟩), ii m] [([.slice none 0 0, ii o, wv h], some t_spec_l01Source)] (fun v m_ => ∃ x y o2 h2, Prm x y ∧ SrcAt 0 o2 ∧ v = pt x y ∧ m_ = [([.slice none 0 0, ii o2, wv h2], some t_spec_l01Source)]) := by
  refine callOK_ofF good fn_spec_l01DrawPrimitive ?_
  conv => whnf
  all_goals (repeat' first
    | (refine part_nz (hp_ hm1 hm2) (nz_a ?_); assumption)
    | (refine part_nz (hp_ hm1 hm2) (nz_b ?_); assumption)
    | (refine CallOK.useD (c_DrawPoint_N (by assumption)) [0] rfl rfl rfl ⟨⟨⟨_, rfl, .lit rfl (fun _ h_ => h_) (fun v hv => okB0_spec (allL_spec rfl v hv))⟩⟩, trivial⟩ (fun v_ mem_ hR => ?_); obtain ⟨px_, py_, o_, h_, hp_, ha_, rfl, rfl⟩ := hR; refine ⟨rfl, pt px_ py_, fun _ => rfl, ?_⟩; (conv => whnf); refine mapK_eval (cs' := [.slice none 0 0, ii o_, wv h_]) rfl ?_; conv => whnf)
    | (show OutK _ _ _ _; rename decide (py_ = 0) = true => q0_; (exact out_forget [] ⟨_, _, _, _, prm_10, ha_, rfl, rfl⟩ rfl (okB2_spec rfl) ⟨⟨⟨_, rfl, .lit rfl rfl (fun v hv => okB0_spec (allL_spec rfl v hv))⟩⟩, trivial⟩ rfl rfl))
    | (show OutK _ _ _ _; rename decide (px_ = 0) = false => q0_; (exact out_forget [] ⟨_, _, _, _, part_ok (hp_ hm1 hm2) (nz_a q0_), ha_, rfl, rfl⟩ rfl (okB2_spec rfl) ⟨⟨⟨_, rfl, .lit rfl rfl (fun v hv => okB0_spec (allL_spec rfl v hv))⟩⟩, trivial⟩ rfl rfl))
    | (show OutK _ _ _ _; rename decide (py_ = 0) = false => q0_; (exact out_forget [] ⟨_, _, _, _, part_ok (hp_ hm1 hm2) (nz_b q0_), ha_, rfl, rfl⟩ rfl (okB2_spec rfl) ⟨⟨⟨_, rfl, .lit rfl rfl (fun v hv => okB0_spec (allL_spec rfl v hv))⟩⟩, trivial⟩ rfl rfl))
    | (refine StoreK.mk rfl ?_; conv => whnf)
    | exact join_same
    | exact (by assumption : (_ : Bool) = (_ : Bool))
    | (refine br_true (by assumption) ?_; conv => whnf)
    | (refine br_false (by assumption) ?_; conv => whnf)
    | (refine br_not ?_; conv => whnf)
    | (refine br_code ?_; conv => whnf)
    | (with_reducible refine br_and ?_; conv => whnf)
    | (with_reducible refine br_or ?_; conv => whnf)
    | (refine br_eq2 ?_; conv => whnf)
    | (refine (c_spec_l01Part ?_).call ?_ <;> conv => whnf)
    | (refine (c_spec_l01Part ?_).quiet ?_ <;> conv => whnf)
    | (refine draw_auto (by decide +kernel) ?_; conv => whnf)
    | (refine draw_asg (by decide +kernel) ?_; conv => whnf)
    | (refine draw_st (by decide +kernel) ?_; conv => whnf)
    | (refine draw_call (by decide +kernel) ?_; conv => whnf)
    | (refine enter_same (loop_n 12 ?_); conv => whnf)
    | (refine next_same ?_; conv => whnf)
    | (refine mapK_row (by assumption) ?_; conv => whnf)
    | (refine mapK_plain (Plain.of rfl) ?_; conv => whnf)
    | (refine mapK_lit ?_; conv => whnf)
    | (refine br_split (fun _ => ?_) (fun _ => ?_) <;> conv => whnf)
    | exact (rfl : (_ : Value) = _)
    | (simp only [*]; exact (rfl : (_ : Value) = _))
    | (simp [*]; done))

end Go.Proofs.Ytlkbfpklhncfbaa
end

section
/-
  Contracts of functions of the program (printed by a program of this work; Lean checks each).
  Conditions: as each contract states.
-/
namespace Go.Proofs.Ytlkbfpklhncfbaa
open Go.Ev Go.RowKit
set_option maxRecDepth 100000
set_option linter.unusedVariables false
set_option linter.unusedSimpArgs false



end Go.Proofs.Ytlkbfpklhncfbaa
end

section
/-
  Contracts of functions of the program (printed by a program of this work; Lean checks each).
  Conditions: as each contract states.
-/
namespace Go.Proofs.Ytlkbfpklhncfbaa
open Go.Ev Go.RowKit
set_option maxRecDepth 100000
set_option linter.unusedVariables false
set_option linter.unusedSimpArgs false

set_option maxHeartbeats 4000000 in
theorem c_Draw2_L {zs : List Int} {off n c : Nat} {o h : Int} (hz : n ≤ zs.length) (hb : ∀ z ∈ zs, IsByte z) (hn : n ≤ 4096) (ha : SrcAt n o) : CallOK Try.prog n_spec_l02Draw [.pointer (some ⟨1, 0, none⟩)] [(away off (bl zs), none), ([.slice (some ⟨0, off, none⟩) n c, ii o, wv h], some t_spec_l01Source)] (fun v m_ => ∃ a1 a2 a3 a4 o2 h2, SrcAt n o2 ∧ v = q4 a1 a2 a3 a4 ∧ m_ = [(away off (bl zs), none), ([.slice (some ⟨0, off, none⟩) n c, ii o2, wv h2], some t_spec_l01Source)]) := by
  refine callOK_ofF good fn_spec_l02Draw ?_
  conv => whnf
  all_goals (repeat' first
    | (refine enter_forget [2, 3] (loop_rec (fun (s : Int) => match s with | e_ => [.pointer (some ⟨1, 0, none⟩), wild, .pointer (some ⟨2, 0, none⟩), wild, .pointer (some ⟨3, 0, none⟩), ii e_, ii (w64 (1 + x40_)), wild, wild, wild, wild, wild, wild, wild, wild, wild, wild, wild, wild, wild, wild, wild, wild, wild, wild, wild, wild, wild, wild, wild, wild, wild, wild, wild, wild, wild, wild, wild, wild, wild, wild, wild, wild, wild, wild, wild, wild, wild, wild, wild, wild, wild, wild, wild, wild, wild, wild, wild, wild, wild, wild, wild, wild, wild, wild, wild, wild, wild, wild, wild, wild]) (fun (s : Int) => match s with | e_ => [(away off (bl zs), none), ([.slice (some ⟨0, off, none⟩) n c, ii o_, wv h_], some t_spec_l01Source), (ti41.zero, some 41), ([ii p1_, ii p2_, ii c1, ii c2], some 41)]) (fun (s : Int) => match s with | e_ => e_.toNat) (fun (s : Int) => match s with | e_ => ScI (w64 (1 + x40_)) e_) (c_) hI2.1 ?_) (tmR_rfl rfl rfl) ⟨⟨⟨_, rfl, .lit (away_conc (bl_plain _) _).symm rfl (away_ok (bl_plain _) _)⟩⟩, ⟨⟨_, rfl, .lit rfl rfl (fun v hv => okB0_spec (allL_spec rfl v hv))⟩⟩, ⟨⟨_, rfl, .plain rfl rfl (by first | exact Plain.of rfl | exact Row.all (by assumption))⟩⟩, ⟨⟨_, rfl, .plain rfl rfl (by first | exact Plain.of rfl | exact Row.all (by assumption))⟩⟩, trivial⟩ rfl rfl; rintro fuel_3 e_ hI3 IH3; replace hI3 : ScI (w64 (1 + x40_)) e_ := hI3; conv => whnf)
    | (refine enter_forget [2, 3] (loop_rec (fun (s : Int × Int) => match s with | (k_, c_) => [.pointer (some ⟨1, 0, none⟩), wild, .pointer (some ⟨2, 0, none⟩), wild, .pointer (some ⟨3, 0, none⟩), ii c_, ii (w64 (1 + x40_)), ii k_, wild, wild, wild, wild, wild, wild, wild, wild, wild, wild, wild, wild, wild, wild, wild, wild, wild, wild, wild, wild, wild, wild, wild, wild, wild, wild, wild, wild, wild, wild, wild, wild, wild, wild, wild, wild, wild, wild, wild, wild, wild, wild, wild, wild, wild, wild, wild, wild, wild, wild, wild, wild, wild, wild, wild, wild, wild, wild, wild, wild, wild, wild, wild]) (fun (s : Int × Int) => match s with | (k_, c_) => [(away off (bl zs), none), ([.slice (some ⟨0, off, none⟩) n c, ii o_, wv h_], some t_spec_l01Source), (ti41.zero, some 41), ([ii p1_, ii p2_, ii c1, ii c2], some 41)]) (fun (s : Int × Int) => match s with | (k_, c_) => k_.toNat) (fun (s : Int × Int) => match s with | (k_, c_) => ScI (w64 (1 + x40_)) c_ ∧ 0 ≤ k_ ∧ k_ ≤ 19) (x20_, 1) ⟨ScI.start hx40_, by have := hx20_ (by omega); omega⟩ ?_) (tmR_rfl rfl rfl) ⟨⟨⟨_, rfl, .lit (away_conc (bl_plain _) _).symm rfl (away_ok (bl_plain _) _)⟩⟩, ⟨⟨_, rfl, .lit rfl rfl (fun v hv => okB0_spec (allL_spec rfl v hv))⟩⟩, ⟨⟨_, rfl, .plain rfl rfl (by first | exact Plain.of rfl | exact Row.all (by assumption))⟩⟩, ⟨⟨_, rfl, .plain rfl rfl (by first | exact Plain.of rfl | exact Row.all (by assumption))⟩⟩, trivial⟩ rfl rfl; rintro fuel_2 ⟨k_, c_⟩ hI2 IH2; replace hI2 : ScI (w64 (1 + x40_)) c_ ∧ 0 ≤ k_ ∧ k_ ≤ 19 := hI2; conv => whnf)
    | (refine enter_forget [2, 4] (loop_rec (fun (s : Int × Int) => match s with | (c1, c2) => [.pointer (some ⟨1, 0, none⟩), wild, .pointer (some ⟨2, 0, none⟩), wild, .pointer (some ⟨3, 0, none⟩), wild, wild, wild, wild, wild, wild, wild, wild, wild, wild, wild, wild, wild, wild, wild, wild, wild, wild, wild, wild, wild, wild, wild, wild, wild, wild, wild, wild, wild, wild, wild, wild, wild, wild, wild, wild, wild, wild, wild, wild, wild, wild, wild, wild, wild, wild, wild, wild, wild, wild, wild, wild, wild, wild, wild, wild, wild, wild, wild, wild, wild, wild, wild, wild, wild, wild]) (fun (s : Int × Int) => match s with | (c1, c2) => [(away off (bl zs), none), ([.slice (some ⟨0, off, none⟩) n c, ii o_, wv h_], some t_spec_l01Source), (ti41.zero, some 41), ([ii p1_, ii p2_, ii c1, ii c2], some 41)]) (fun (s : Int × Int) => match s with | (c1, c2) => detMu p1_ p2_ c1 c2) (fun (s : Int × Int) => match s with | (c1, c2) => Prm p1_ p2_) (q1_, q2_) hp1_ ?_) (tmR_rfl rfl rfl) ⟨⟨⟨_, rfl, .lit (away_conc (bl_plain _) _).symm rfl (away_ok (bl_plain _) _)⟩⟩, ⟨⟨_, rfl, .lit rfl rfl (fun v hv => okB0_spec (allL_spec rfl v hv))⟩⟩, ⟨⟨_, rfl, .plain rfl rfl (by first | exact Plain.of rfl | exact Row.all (by assumption))⟩⟩, ⟨⟨_, rfl, .plain rfl rfl (by first | exact Plain.of rfl | exact Row.all (by assumption))⟩⟩, trivial⟩ rfl rfl; rintro fuel_1 ⟨c1, c2⟩ hI1 IH1; replace hI1 : Prm p1_ p2_ := hI1; conv => whnf)
    | exact next_forget [2, 3] (IH3 (w64 (e_ - 1)) (hI3.down (by assumption)).1 (hI3.down (by assumption)).2) (tmR_rfl rfl rfl) ⟨⟨⟨_, rfl, .lit (away_conc (bl_plain _) _).symm rfl (away_ok (bl_plain _) _)⟩⟩, ⟨⟨_, rfl, .lit rfl rfl (fun v hv => okB0_spec (allL_spec rfl v hv))⟩⟩, ⟨⟨_, rfl, .plain rfl rfl (by first | exact Plain.of rfl | exact Row.all (by assumption))⟩⟩, ⟨⟨_, rfl, .plain rfl rfl (by first | exact Plain.of rfl | exact Row.all (by assumption))⟩⟩, trivial⟩ rfl rfl
    | exact next_forget [2, 3] (IH2 (w64 (k_ - 1), _) ⟨hI2.1.next, (cnt_down (by omega) hI2.2 (by assumption)).1⟩ (cnt_down (by omega) hI2.2 (by assumption)).2) (tmR_rfl rfl rfl) ⟨⟨⟨_, rfl, .lit (away_conc (bl_plain _) _).symm rfl (away_ok (bl_plain _) _)⟩⟩, ⟨⟨_, rfl, .lit rfl rfl (fun v hv => okB0_spec (allL_spec rfl v hv))⟩⟩, ⟨⟨_, rfl, .plain rfl rfl (by first | exact Plain.of rfl | exact Row.all (by assumption))⟩⟩, ⟨⟨_, rfl, .plain rfl rfl (by first | exact Plain.of rfl | exact Row.all (by assumption))⟩⟩, trivial⟩ rfl rfl
    | exact next_forget [2, 3] (IH1 (w64 (0 - p2_), p1_) hI1 (turn_mu hI1 (by assumption))) (tmR_rfl rfl rfl) ⟨⟨⟨_, rfl, .lit (away_conc (bl_plain _) _).symm rfl (away_ok (bl_plain _) _)⟩⟩, ⟨⟨_, rfl, .lit rfl rfl (fun v hv => okB0_spec (allL_spec rfl v hv))⟩⟩, ⟨⟨_, rfl, .plain rfl rfl (by first | exact Plain.of rfl | exact Row.all (by assumption))⟩⟩, ⟨⟨_, rfl, .plain rfl rfl (by first | exact Plain.of rfl | exact Row.all (by assumption))⟩⟩, trivial⟩ rfl rfl
    | (refine CallOK.useD (c_PickM_L (xs := [3, 5, 9, 30, 900]) hz hb hn (by assumption) (by decide) (by decide)) [0, 1, 3] rfl rfl rfl ⟨⟨⟨_, rfl, .lit (away_conc (bl_plain _) _).symm (fun _ h_ => by cases h_) (away_ok (bl_plain _) _)⟩⟩, ⟨⟨_, rfl, .lit rfl (fun _ h_ => h_) (fun v hv => okB0_spec (allL_spec rfl v hv))⟩⟩, ⟨⟨_, rfl, .plain rfl (fun _ h_ => by cases h_) (il_plain _)⟩⟩, trivial⟩ (fun v_ mem_ hR => ?_); obtain ⟨y_, o_, h_, hy_, ha_, rfl, rfl⟩ := hR; refine ⟨rfl, ii y_, fun _ => rfl, ?_⟩; (conv => whnf); refine mapK_eval (cs' := [.slice (some ⟨0, off, none⟩) n c, ii o_, wv h_]) rfl ?_; conv => whnf)
    | (have g_ := hp1_; (refine CallOK.useD (c_DrawPrim_L hz hb hn (by assumption) hm_.1 hm_.2) [0, 1] rfl rfl rfl ⟨⟨⟨_, rfl, .lit (away_conc (bl_plain _) _).symm (fun _ h_ => by cases h_) (away_ok (bl_plain _) _)⟩⟩, ⟨⟨_, rfl, .lit rfl (fun _ h_ => h_) (fun v hv => okB0_spec (allL_spec rfl v hv))⟩⟩, trivial⟩ (fun v_ mem_ hR => ?_); obtain ⟨q1_, q2_, o_, h_, hp2_, ha_, rfl, rfl⟩ := hR; refine ⟨rfl, pt q1_ q2_, fun _ => rfl, ?_⟩; (conv => whnf); refine mapK_eval (cs' := [.slice (some ⟨0, off, none⟩) n c, ii o_, wv h_]) rfl ?_; conv => whnf))
    | (have hm_ := most_in hy_; (refine CallOK.useD (c_DrawPrim_L hz hb hn (by assumption) hm_.1 hm_.2) [0, 1] rfl rfl rfl ⟨⟨⟨_, rfl, .lit (away_conc (bl_plain _) _).symm (fun _ h_ => by cases h_) (away_ok (bl_plain _) _)⟩⟩, ⟨⟨_, rfl, .lit rfl (fun _ h_ => h_) (fun v hv => okB0_spec (allL_spec rfl v hv))⟩⟩, trivial⟩ (fun v_ mem_ hR => ?_); obtain ⟨p1_, p2_, o_, h_, hp1_, ha_, rfl, rfl⟩ := hR; refine ⟨rfl, pt p1_ p2_, fun _ => rfl, ?_⟩; (conv => whnf); refine mapK_eval (cs' := [.slice (some ⟨0, off, none⟩) n c, ii o_, wv h_]) rfl ?_; conv => whnf))
    | (refine CallOK.useD (c_Next_L (m := 12) hz hb hn (by assumption)) [0, 1] rfl rfl rfl ⟨⟨⟨_, rfl, .lit (away_conc (bl_plain _) _).symm (fun _ h_ => by cases h_) (away_ok (bl_plain _) _)⟩⟩, ⟨⟨_, rfl, .lit rfl (fun _ h_ => h_) (fun v hv => okB0_spec (allL_spec rfl v hv))⟩⟩, trivial⟩ (fun v_ mem_ hR => ?_); obtain ⟨x12_, o_, h_, hx12_, ha_, rfl, rfl⟩ := hR; refine ⟨rfl, ii x12_, fun _ => rfl, ?_⟩; (conv => whnf); refine mapK_eval (cs' := [.slice (some ⟨0, off, none⟩) n c, ii o_, wv h_]) rfl ?_; conv => whnf)
    | (refine CallOK.useD (c_Next_L (m := 40) hz hb hn (by assumption)) [0, 1] rfl rfl rfl ⟨⟨⟨_, rfl, .lit (away_conc (bl_plain _) _).symm (fun _ h_ => by cases h_) (away_ok (bl_plain _) _)⟩⟩, ⟨⟨_, rfl, .lit rfl (fun _ h_ => h_) (fun v hv => okB0_spec (allL_spec rfl v hv))⟩⟩, trivial⟩ (fun v_ mem_ hR => ?_); obtain ⟨x40_, o_, h_, hx40_, ha_, rfl, rfl⟩ := hR; refine ⟨rfl, ii x40_, fun _ => rfl, ?_⟩; (conv => whnf); refine mapK_eval (cs' := [.slice (some ⟨0, off, none⟩) n c, ii o_, wv h_]) rfl ?_; conv => whnf)
    | (refine CallOK.useD (c_Next_L (m := 20) hz hb hn (by assumption)) [0, 1] rfl rfl rfl ⟨⟨⟨_, rfl, .lit (away_conc (bl_plain _) _).symm (fun _ h_ => by cases h_) (away_ok (bl_plain _) _)⟩⟩, ⟨⟨_, rfl, .lit rfl (fun _ h_ => h_) (fun v hv => okB0_spec (allL_spec rfl v hv))⟩⟩, trivial⟩ (fun v_ mem_ hR => ?_); obtain ⟨x20_, o_, h_, hx20_, ha_, rfl, rfl⟩ := hR; refine ⟨rfl, ii x20_, fun _ => rfl, ?_⟩; (conv => whnf); refine mapK_eval (cs' := [.slice (some ⟨0, off, none⟩) n c, ii o_, wv h_]) rfl ?_; conv => whnf)
    | (refine br_false hI2.1.nz ?_; conv => whnf)
    | (refine CallOK.useD (c_Pick_L (xs := [1, 1, 0, -1]) hz hb hn (by assumption) (by decide) (by decide)) [0, 1, 4] rfl rfl rfl ⟨⟨⟨_, rfl, .lit (away_conc (bl_plain _) _).symm (fun _ h_ => by cases h_) (away_ok (bl_plain _) _)⟩⟩, ⟨⟨_, rfl, .lit rfl (fun _ h_ => h_) (fun v hv => okB0_spec (allL_spec rfl v hv))⟩⟩, ⟨⟨_, rfl, .plain rfl (fun _ h_ => by cases h_) (il_plain _)⟩⟩, trivial⟩ (fun v_ mem_ hR => ?_); obtain ⟨y_, o_, h_, ha_, rfl, rfl⟩ := hR; refine ⟨rfl, ii y_, fun _ => rfl, ?_⟩; (conv => whnf); refine mapK_eval (cs' := [.slice (some ⟨0, off, none⟩) n c, ii o_, wv h_]) rfl ?_; conv => whnf)
    | (refine CallOK.useD (c_Pick_L (xs := [2, 1, -1]) hz hb hn (by assumption) (by decide) (by decide)) [0, 1, 5] rfl rfl rfl ⟨⟨⟨_, rfl, .lit (away_conc (bl_plain _) _).symm (fun _ h_ => by cases h_) (away_ok (bl_plain _) _)⟩⟩, ⟨⟨_, rfl, .lit rfl (fun _ h_ => h_) (fun v hv => okB0_spec (allL_spec rfl v hv))⟩⟩, ⟨⟨_, rfl, .plain rfl (fun _ h_ => by cases h_) (il_plain _)⟩⟩, trivial⟩ (fun v_ mem_ hR => ?_); obtain ⟨y_, o_, h_, ha_, rfl, rfl⟩ := hR; refine ⟨rfl, ii y_, fun _ => rfl, ?_⟩; (conv => whnf); refine mapK_eval (cs' := [.slice (some ⟨0, off, none⟩) n c, ii o_, wv h_]) rfl ?_; conv => whnf)
    | (show OutK _ _ _ _; (exact out_forget [] ⟨_, _, _, _, _, _, ha_, rfl, rfl⟩ rfl (okB2_spec rfl) ⟨⟨⟨_, rfl, .lit (away_conc (bl_plain _) _).symm rfl (away_ok (bl_plain _) _)⟩⟩, ⟨⟨_, rfl, .lit rfl rfl (fun v hv => okB0_spec (allL_spec rfl v hv))⟩⟩, trivial⟩ rfl rfl))
    | (refine StoreK.mk rfl ?_; conv => whnf)
    | exact join_same
    | exact (by assumption : (_ : Bool) = (_ : Bool))
    | (refine br_true (by assumption) ?_; conv => whnf)
    | (refine br_false (by assumption) ?_; conv => whnf)
    | (refine br_not ?_; conv => whnf)
    | (refine br_code ?_; conv => whnf)
    | (with_reducible refine br_and ?_; conv => whnf)
    | (with_reducible refine br_or ?_; conv => whnf)
    | (refine br_eq2 ?_; conv => whnf)
    | (refine c_spec_l01Det.call ?_; conv => whnf)
    | (refine c_spec_l01Det.quiet ?_; conv => whnf)
    | (refine c_spec_l01Gcd.call ?_; conv => whnf)
    | (refine c_spec_l01Gcd.quiet ?_; conv => whnf)
    | (refine c_spec_l02Normal.call ?_; conv => whnf)
    | (refine c_spec_l02Normal.quiet ?_; conv => whnf)
    | (refine draw_auto (by decide +kernel) ?_; conv => whnf)
    | (refine draw_asg (by decide +kernel) ?_; conv => whnf)
    | (refine draw_st (by decide +kernel) ?_; conv => whnf)
    | (refine draw_call (by decide +kernel) ?_; conv => whnf)
    | (refine enter_same (loop_n 12 ?_); conv => whnf)
    | (refine next_same ?_; conv => whnf)
    | (refine mapK_row (by assumption) ?_; conv => whnf)
    | (refine mapK_plain (Plain.of rfl) ?_; conv => whnf)
    | (refine mapK_lit ?_; conv => whnf)
    | (refine br_split (fun _ => ?_) (fun _ => ?_) <;> conv => whnf)
    | exact (rfl : (_ : Value) = _)
    | (simp only [*]; exact (rfl : (_ : Value) = _))
    | (simp [*]; done))

set_option maxHeartbeats 4000000 in
theorem c_Draw2_N  {o h : Int}  (ha : SrcAt 0 o) : CallOK Try.prog n_spec_l02Draw [.pointer (some ⟨0, 0, none⟩)] [([.slice none 0 0, ii o, wv h], some t_spec_l01Source)] (fun v m_ => ∃ a1 a2 a3 a4 o2 h2, SrcAt 0 o2 ∧ v = q4 a1 a2 a3 a4 ∧ m_ = [([.slice none 0 0, ii o2, wv h2], some t_spec_l01Source)]) := by
  refine callOK_ofF good fn_spec_l02Draw ?_
  conv => whnf
  all_goals (repeat' first
    | (refine enter_forget [1, 2] (loop_rec (fun (s : Int) => match s with | e_ => [.pointer (some ⟨0, 0, none⟩), wild, .pointer (some ⟨1, 0, none⟩), wild, .pointer (some ⟨2, 0, none⟩), ii e_, ii (w64 (1 + x40_)), wild, wild, wild, wild, wild, wild, wild, wild, wild, wild, wild, wild, wild, wild, wild, wild, wild, wild, wild, wild, wild, wild, wild, wild, wild, wild, wild, wild, wild, wild, wild, wild, wild, wild, wild, wild, wild, wild, wild, wild, wild, wild, wild, wild, wild, wild, wild, wild, wild, wild, wild, wild, wild, wild, wild, wild, wild, wild, wild, wild, wild, wild, wild, wild]) (fun (s : Int) => match s with | e_ => [([.slice none 0 0, ii o_, wv h_], some t_spec_l01Source), (ti41.zero, some 41), ([ii p1_, ii p2_, ii c1, ii c2], some 41)]) (fun (s : Int) => match s with | e_ => e_.toNat) (fun (s : Int) => match s with | e_ => ScI (w64 (1 + x40_)) e_) (c_) hI2.1 ?_) (tmR_rfl rfl rfl) ⟨⟨⟨_, rfl, .lit rfl rfl (fun v hv => okB0_spec (allL_spec rfl v hv))⟩⟩, ⟨⟨_, rfl, .plain rfl rfl (by first | exact Plain.of rfl | exact Row.all (by assumption))⟩⟩, ⟨⟨_, rfl, .plain rfl rfl (by first | exact Plain.of rfl | exact Row.all (by assumption))⟩⟩, trivial⟩ rfl rfl; rintro fuel_3 e_ hI3 IH3; replace hI3 : ScI (w64 (1 + x40_)) e_ := hI3; conv => whnf)
    | (refine enter_forget [1, 2] (loop_rec (fun (s : Int × Int) => match s with | (k_, c_) => [.pointer (some ⟨0, 0, none⟩), wild, .pointer (some ⟨1, 0, none⟩), wild, .pointer (some ⟨2, 0, none⟩), ii c_, ii (w64 (1 + x40_)), ii k_, wild, wild, wild, wild, wild, wild, wild, wild, wild, wild, wild, wild, wild, wild, wild, wild, wild, wild, wild, wild, wild, wild, wild, wild, wild, wild, wild, wild, wild, wild, wild, wild, wild, wild, wild, wild, wild, wild, wild, wild, wild, wild, wild, wild, wild, wild, wild, wild, wild, wild, wild, wild, wild, wild, wild, wild, wild, wild, wild, wild, wild, wild, wild]) (fun (s : Int × Int) => match s with | (k_, c_) => [([.slice none 0 0, ii o_, wv h_], some t_spec_l01Source), (ti41.zero, some 41), ([ii p1_, ii p2_, ii c1, ii c2], some 41)]) (fun (s : Int × Int) => match s with | (k_, c_) => k_.toNat) (fun (s : Int × Int) => match s with | (k_, c_) => ScI (w64 (1 + x40_)) c_ ∧ 0 ≤ k_ ∧ k_ ≤ 19) (x20_, 1) ⟨ScI.start hx40_, by have := hx20_ (by omega); omega⟩ ?_) (tmR_rfl rfl rfl) ⟨⟨⟨_, rfl, .lit rfl rfl (fun v hv => okB0_spec (allL_spec rfl v hv))⟩⟩, ⟨⟨_, rfl, .plain rfl rfl (by first | exact Plain.of rfl | exact Row.all (by assumption))⟩⟩, ⟨⟨_, rfl, .plain rfl rfl (by first | exact Plain.of rfl | exact Row.all (by assumption))⟩⟩, trivial⟩ rfl rfl; rintro fuel_2 ⟨k_, c_⟩ hI2 IH2; replace hI2 : ScI (w64 (1 + x40_)) c_ ∧ 0 ≤ k_ ∧ k_ ≤ 19 := hI2; conv => whnf)
    | (refine enter_forget [1, 3] (loop_rec (fun (s : Int × Int) => match s with | (c1, c2) => [.pointer (some ⟨0, 0, none⟩), wild, .pointer (some ⟨1, 0, none⟩), wild, .pointer (some ⟨2, 0, none⟩), wild, wild, wild, wild, wild, wild, wild, wild, wild, wild, wild, wild, wild, wild, wild, wild, wild, wild, wild, wild, wild, wild, wild, wild, wild, wild, wild, wild, wild, wild, wild, wild, wild, wild, wild, wild, wild, wild, wild, wild, wild, wild, wild, wild, wild, wild, wild, wild, wild, wild, wild, wild, wild, wild, wild, wild, wild, wild, wild, wild, wild, wild, wild, wild, wild, wild]) (fun (s : Int × Int) => match s with | (c1, c2) => [([.slice none 0 0, ii o_, wv h_], some t_spec_l01Source), (ti41.zero, some 41), ([ii p1_, ii p2_, ii c1, ii c2], some 41)]) (fun (s : Int × Int) => match s with | (c1, c2) => detMu p1_ p2_ c1 c2) (fun (s : Int × Int) => match s with | (c1, c2) => Prm p1_ p2_) (q1_, q2_) hp1_ ?_) (tmR_rfl rfl rfl) ⟨⟨⟨_, rfl, .lit rfl rfl (fun v hv => okB0_spec (allL_spec rfl v hv))⟩⟩, ⟨⟨_, rfl, .plain rfl rfl (by first | exact Plain.of rfl | exact Row.all (by assumption))⟩⟩, ⟨⟨_, rfl, .plain rfl rfl (by first | exact Plain.of rfl | exact Row.all (by assumption))⟩⟩, trivial⟩ rfl rfl; rintro fuel_1 ⟨c1, c2⟩ hI1 IH1; replace hI1 : Prm p1_ p2_ := hI1; conv => whnf)
    | exact next_forget [1, 2] (IH3 (w64 (e_ - 1)) (hI3.down (by assumption)).1 (hI3.down (by assumption)).2) (tmR_rfl rfl rfl) ⟨⟨⟨_, rfl, .lit rfl rfl (fun v hv => okB0_spec (allL_spec rfl v hv))⟩⟩, ⟨⟨_, rfl, .plain rfl rfl (by first | exact Plain.of rfl | exact Row.all (by assumption))⟩⟩, ⟨⟨_, rfl, .plain rfl rfl (by first | exact Plain.of rfl | exact Row.all (by assumption))⟩⟩, trivial⟩ rfl rfl
    | exact next_forget [1, 2] (IH2 (w64 (k_ - 1), _) ⟨hI2.1.next, (cnt_down (by omega) hI2.2 (by assumption)).1⟩ (cnt_down (by omega) hI2.2 (by assumption)).2) (tmR_rfl rfl rfl) ⟨⟨⟨_, rfl, .lit rfl rfl (fun v hv => okB0_spec (allL_spec rfl v hv))⟩⟩, ⟨⟨_, rfl, .plain rfl rfl (by first | exact Plain.of rfl | exact Row.all (by assumption))⟩⟩, ⟨⟨_, rfl, .plain rfl rfl (by first | exact Plain.of rfl | exact Row.all (by assumption))⟩⟩, trivial⟩ rfl rfl
    | exact next_forget [1, 2] (IH1 (w64 (0 - p2_), p1_) hI1 (turn_mu hI1 (by assumption))) (tmR_rfl rfl rfl) ⟨⟨⟨_, rfl, .lit rfl rfl (fun v hv => okB0_spec (allL_spec rfl v hv))⟩⟩, ⟨⟨_, rfl, .plain rfl rfl (by first | exact Plain.of rfl | exact Row.all (by assumption))⟩⟩, ⟨⟨_, rfl, .plain rfl rfl (by first | exact Plain.of rfl | exact Row.all (by assumption))⟩⟩, trivial⟩ rfl rfl
    | (refine CallOK.useD (c_PickM_N (xs := [3, 5, 9, 30, 900]) (by assumption) (by decide) (by decide)) [0, 2] rfl rfl rfl ⟨⟨⟨_, rfl, .lit rfl (fun _ h_ => h_) (fun v hv => okB0_spec (allL_spec rfl v hv))⟩⟩, ⟨⟨_, rfl, .plain rfl (fun _ h_ => by cases h_) (il_plain _)⟩⟩, trivial⟩ (fun v_ mem_ hR => ?_); obtain ⟨y_, o_, h_, hy_, ha_, rfl, rfl⟩ := hR; refine ⟨rfl, ii y_, fun _ => rfl, ?_⟩; (conv => whnf); refine mapK_eval (cs' := [.slice none 0 0, ii o_, wv h_]) rfl ?_; conv => whnf)
    | (have g_ := hp1_; (refine CallOK.useD (c_DrawPrim_N (by assumption) hm_.1 hm_.2) [0] rfl rfl rfl ⟨⟨⟨_, rfl, .lit rfl (fun _ h_ => h_) (fun v hv => okB0_spec (allL_spec rfl v hv))⟩⟩, trivial⟩ (fun v_ mem_ hR => ?_); obtain ⟨q1_, q2_, o_, h_, hp2_, ha_, rfl, rfl⟩ := hR; refine ⟨rfl, pt q1_ q2_, fun _ => rfl, ?_⟩; (conv => whnf); refine mapK_eval (cs' := [.slice none 0 0, ii o_, wv h_]) rfl ?_; conv => whnf))
    | (have hm_ := most_in hy_; (refine CallOK.useD (c_DrawPrim_N (by assumption) hm_.1 hm_.2) [0] rfl rfl rfl ⟨⟨⟨_, rfl, .lit rfl (fun _ h_ => h_) (fun v hv => okB0_spec (allL_spec rfl v hv))⟩⟩, trivial⟩ (fun v_ mem_ hR => ?_); obtain ⟨p1_, p2_, o_, h_, hp1_, ha_, rfl, rfl⟩ := hR; refine ⟨rfl, pt p1_ p2_, fun _ => rfl, ?_⟩; (conv => whnf); refine mapK_eval (cs' := [.slice none 0 0, ii o_, wv h_]) rfl ?_; conv => whnf))
    | (refine CallOK.useD (c_Next_N (m := 12) (by assumption)) [0] rfl rfl rfl ⟨⟨⟨_, rfl, .lit rfl (fun _ h_ => h_) (fun v hv => okB0_spec (allL_spec rfl v hv))⟩⟩, trivial⟩ (fun v_ mem_ hR => ?_); obtain ⟨x12_, o_, h_, hx12_, ha_, rfl, rfl⟩ := hR; refine ⟨rfl, ii x12_, fun _ => rfl, ?_⟩; (conv => whnf); refine mapK_eval (cs' := [.slice none 0 0, ii o_, wv h_]) rfl ?_; conv => whnf)
    | (refine CallOK.useD (c_Next_N (m := 40) (by assumption)) [0] rfl rfl rfl ⟨⟨⟨_, rfl, .lit rfl (fun _ h_ => h_) (fun v hv => okB0_spec (allL_spec rfl v hv))⟩⟩, trivial⟩ (fun v_ mem_ hR => ?_); obtain ⟨x40_, o_, h_, hx40_, ha_, rfl, rfl⟩ := hR; refine ⟨rfl, ii x40_, fun _ => rfl, ?_⟩; (conv => whnf); refine mapK_eval (cs' := [.slice none 0 0, ii o_, wv h_]) rfl ?_; conv => whnf)
    | (refine CallOK.useD (c_Next_N (m := 20) (by assumption)) [0] rfl rfl rfl ⟨⟨⟨_, rfl, .lit rfl (fun _ h_ => h_) (fun v hv => okB0_spec (allL_spec rfl v hv))⟩⟩, trivial⟩ (fun v_ mem_ hR => ?_); obtain ⟨x20_, o_, h_, hx20_, ha_, rfl, rfl⟩ := hR; refine ⟨rfl, ii x20_, fun _ => rfl, ?_⟩; (conv => whnf); refine mapK_eval (cs' := [.slice none 0 0, ii o_, wv h_]) rfl ?_; conv => whnf)
    | (refine br_false hI2.1.nz ?_; conv => whnf)
    | (refine CallOK.useD (c_Pick_N (xs := [1, 1, 0, -1]) (by assumption) (by decide) (by decide)) [0, 3] rfl rfl rfl ⟨⟨⟨_, rfl, .lit rfl (fun _ h_ => h_) (fun v hv => okB0_spec (allL_spec rfl v hv))⟩⟩, ⟨⟨_, rfl, .plain rfl (fun _ h_ => by cases h_) (il_plain _)⟩⟩, trivial⟩ (fun v_ mem_ hR => ?_); obtain ⟨y_, o_, h_, ha_, rfl, rfl⟩ := hR; refine ⟨rfl, ii y_, fun _ => rfl, ?_⟩; (conv => whnf); refine mapK_eval (cs' := [.slice none 0 0, ii o_, wv h_]) rfl ?_; conv => whnf)
    | (refine CallOK.useD (c_Pick_N (xs := [2, 1, -1]) (by assumption) (by decide) (by decide)) [0, 4] rfl rfl rfl ⟨⟨⟨_, rfl, .lit rfl (fun _ h_ => h_) (fun v hv => okB0_spec (allL_spec rfl v hv))⟩⟩, ⟨⟨_, rfl, .plain rfl (fun _ h_ => by cases h_) (il_plain _)⟩⟩, trivial⟩ (fun v_ mem_ hR => ?_); obtain ⟨y_, o_, h_, ha_, rfl, rfl⟩ := hR; refine ⟨rfl, ii y_, fun _ => rfl, ?_⟩; (conv => whnf); refine mapK_eval (cs' := [.slice none 0 0, ii o_, wv h_]) rfl ?_; conv => whnf)
    | (show OutK _ _ _ _; (exact out_forget [] ⟨_, _, _, _, _, _, ha_, rfl, rfl⟩ rfl (okB2_spec rfl) ⟨⟨⟨_, rfl, .lit rfl rfl (fun v hv => okB0_spec (allL_spec rfl v hv))⟩⟩, trivial⟩ rfl rfl))
    | (refine StoreK.mk rfl ?_; conv => whnf)
    | exact join_same
    | exact (by assumption : (_ : Bool) = (_ : Bool))
    | (refine br_true (by assumption) ?_; conv => whnf)
    | (refine br_false (by assumption) ?_; conv => whnf)
    | (refine br_not ?_; conv => whnf)
    | (refine br_code ?_; conv => whnf)
    | (with_reducible refine br_and ?_; conv => whnf)
    | (with_reducible refine br_or ?_; conv => whnf)
    | (refine br_eq2 ?_; conv => whnf)
    | (refine c_spec_l01Det.call ?_; conv => whnf)
    | (refine c_spec_l01Det.quiet ?_; conv => whnf)
    | (refine c_spec_l01Gcd.call ?_; conv => whnf)
    | (refine c_spec_l01Gcd.quiet ?_; conv => whnf)
    | (refine c_spec_l02Normal.call ?_; conv => whnf)
    | (refine c_spec_l02Normal.quiet ?_; conv => whnf)
    | (refine draw_auto (by decide +kernel) ?_; conv => whnf)
    | (refine draw_asg (by decide +kernel) ?_; conv => whnf)
    | (refine draw_st (by decide +kernel) ?_; conv => whnf)
    | (refine draw_call (by decide +kernel) ?_; conv => whnf)
    | (refine enter_same (loop_n 12 ?_); conv => whnf)
    | (refine next_same ?_; conv => whnf)
    | (refine mapK_row (by assumption) ?_; conv => whnf)
    | (refine mapK_plain (Plain.of rfl) ?_; conv => whnf)
    | (refine mapK_lit ?_; conv => whnf)
    | (refine br_split (fun _ => ?_) (fun _ => ?_) <;> conv => whnf)
    | exact (rfl : (_ : Value) = _)
    | (simp only [*]; exact (rfl : (_ : Value) = _))
    | (simp [*]; done))

end Go.Proofs.Ytlkbfpklhncfbaa
end

section
/-
  Contracts of functions of the program (printed by a program of this work; Lean checks each).
  Conditions: as each contract states.
-/
namespace Go.Proofs.Ytlkbfpklhncfbaa
open Go.Ev Go.RowKit
set_option maxRecDepth 100000
set_option linter.unusedVariables false
set_option linter.unusedSimpArgs false

set_option maxHeartbeats 4000000 in
theorem c_Spoil2_L {zs : List Int} {off n c : Nat} {o h : Int} (hz : n ≤ zs.length) (hb : ∀ z ∈ zs, IsByte z) (hn : n ≤ 4096) (ha : SrcAt n o) : CallOK Try.prog n_spec_l02Spoil [.pointer (some ⟨1, 0, none⟩)] [(away off (bl zs), none), ([.slice (some ⟨0, off, none⟩) n c, ii o, wv h], some t_spec_l01Source)] (fun v m_ => ∃ a1 a2 a3 a4 o2 h2, SrcAt n o2 ∧ v = q4 a1 a2 a3 a4 ∧ m_ = [(away off (bl zs), none), ([.slice (some ⟨0, off, none⟩) n c, ii o2, wv h2], some t_spec_l01Source)]) := by
  refine callOK_ofF good fn_spec_l02Spoil ?_
  conv => whnf
  all_goals (repeat' first
    | (refine CallOK.useD (c_Draw2_L hz hb hn (by assumption)) [0, 1] rfl rfl rfl ⟨⟨⟨_, rfl, .lit (away_conc (bl_plain _) _).symm (fun _ h_ => by cases h_) (away_ok (bl_plain _) _)⟩⟩, ⟨⟨_, rfl, .lit rfl (fun _ h_ => h_) (fun v hv => okB0_spec (allL_spec rfl v hv))⟩⟩, trivial⟩ (fun v_ mem_ hR => ?_); obtain ⟨a1_, a2_, a3_, a4_, o_, h_, ha_, rfl, rfl⟩ := hR; refine ⟨rfl, q4 a1_ a2_ a3_ a4_, fun _ => rfl, ?_⟩; (conv => whnf); refine mapK_eval (cs' := [.slice (some ⟨0, off, none⟩) n c, ii o_, wv h_]) rfl ?_; conv => whnf)
    | (refine CallOK.useD (c_Next_L (m := 50) hz hb hn (by assumption)) [0, 1] rfl rfl rfl ⟨⟨⟨_, rfl, .lit (away_conc (bl_plain _) _).symm (fun _ h_ => by cases h_) (away_ok (bl_plain _) _)⟩⟩, ⟨⟨_, rfl, .lit rfl (fun _ h_ => h_) (fun v hv => okB0_spec (allL_spec rfl v hv))⟩⟩, trivial⟩ (fun v_ mem_ hR => ?_); obtain ⟨x50_, o_, h_, hx50_, ha_, rfl, rfl⟩ := hR; refine ⟨rfl, ii x50_, fun _ => rfl, ?_⟩; (conv => whnf); refine mapK_eval (cs' := [.slice (some ⟨0, off, none⟩) n c, ii o_, wv h_]) rfl ?_; conv => whnf)
    | (refine CallOK.useD (c_Next_L (m := 2) hz hb hn (by assumption)) [0, 1] rfl rfl rfl ⟨⟨⟨_, rfl, .lit (away_conc (bl_plain _) _).symm (fun _ h_ => by cases h_) (away_ok (bl_plain _) _)⟩⟩, ⟨⟨_, rfl, .lit rfl (fun _ h_ => h_) (fun v hv => okB0_spec (allL_spec rfl v hv))⟩⟩, trivial⟩ (fun v_ mem_ hR => ?_); obtain ⟨x2_, o_, h_, hx2_, ha_, rfl, rfl⟩ := hR; refine ⟨rfl, ii x2_, fun _ => rfl, ?_⟩; (conv => whnf); refine mapK_eval (cs' := [.slice (some ⟨0, off, none⟩) n c, ii o_, wv h_]) rfl ?_; conv => whnf)
    | (show brK (decide (0 ≤ x2_ ∧ x2_ < _)) _ _; rcases two_of hx2_ with rfl | rfl <;> conv => whnf)
    | (show OutK _ _ _ _; (exact out_forget [] ⟨_, _, _, _, _, _, ha_, rfl, rfl⟩ rfl (okB2_spec rfl) ⟨⟨⟨_, rfl, .lit (away_conc (bl_plain _) _).symm rfl (away_ok (bl_plain _) _)⟩⟩, ⟨⟨_, rfl, .lit rfl rfl (fun v hv => okB0_spec (allL_spec rfl v hv))⟩⟩, trivial⟩ rfl rfl))
    | (refine StoreK.mk rfl ?_; conv => whnf)
    | exact join_same
    | exact (by assumption : (_ : Bool) = (_ : Bool))
    | (refine br_true (by assumption) ?_; conv => whnf)
    | (refine br_false (by assumption) ?_; conv => whnf)
    | (refine br_not ?_; conv => whnf)
    | (refine br_code ?_; conv => whnf)
    | (with_reducible refine br_and ?_; conv => whnf)
    | (with_reducible refine br_or ?_; conv => whnf)
    | (refine br_eq2 ?_; conv => whnf)
    | (refine draw_auto (by decide +kernel) ?_; conv => whnf)
    | (refine draw_asg (by decide +kernel) ?_; conv => whnf)
    | (refine draw_st (by decide +kernel) ?_; conv => whnf)
    | (refine draw_call (by decide +kernel) ?_; conv => whnf)
    | (refine enter_same (loop_n 12 ?_); conv => whnf)
    | (refine next_same ?_; conv => whnf)
    | (refine mapK_row (by assumption) ?_; conv => whnf)
    | (refine mapK_plain (Plain.of rfl) ?_; conv => whnf)
    | (refine mapK_lit ?_; conv => whnf)
    | (refine br_split (fun _ => ?_) (fun _ => ?_) <;> conv => whnf)
    | exact (rfl : (_ : Value) = _)
    | (simp only [*]; exact (rfl : (_ : Value) = _))
    | (simp [*]; done))

set_option maxHeartbeats 4000000 in
theorem c_Spoil2_N  {o h : Int}  (ha : SrcAt 0 o) : CallOK Try.prog n_spec_l02Spoil [.pointer (some ⟨0, 0, none⟩)] [([.slice none 0 0, ii o, wv h], some t_spec_l01Source)] (fun v m_ => ∃ a1 a2 a3 a4 o2 h2, SrcAt 0 o2 ∧ v = q4 a1 a2 a3 a4 ∧ m_ = [([.slice none 0 0, ii o2, wv h2], some t_spec_l01Source)]) := by
  refine callOK_ofF good fn_spec_l02Spoil ?_
  conv => whnf
  all_goals (repeat' first
    | (refine CallOK.useD (c_Draw2_N (by assumption)) [0] rfl rfl rfl ⟨⟨⟨_, rfl, .lit rfl (fun _ h_ => h_) (fun v hv => okB0_spec (allL_spec rfl v hv))⟩⟩, trivial⟩ (fun v_ mem_ hR => ?_); obtain ⟨a1_, a2_, a3_, a4_, o_, h_, ha_, rfl, rfl⟩ := hR; refine ⟨rfl, q4 a1_ a2_ a3_ a4_, fun _ => rfl, ?_⟩; (conv => whnf); refine mapK_eval (cs' := [.slice none 0 0, ii o_, wv h_]) rfl ?_; conv => whnf)
    | (refine CallOK.useD (c_Next_N (m := 50) (by assumption)) [0] rfl rfl rfl ⟨⟨⟨_, rfl, .lit rfl (fun _ h_ => h_) (fun v hv => okB0_spec (allL_spec rfl v hv))⟩⟩, trivial⟩ (fun v_ mem_ hR => ?_); obtain ⟨x50_, o_, h_, hx50_, ha_, rfl, rfl⟩ := hR; refine ⟨rfl, ii x50_, fun _ => rfl, ?_⟩; (conv => whnf); refine mapK_eval (cs' := [.slice none 0 0, ii o_, wv h_]) rfl ?_; conv => whnf)
    | (refine CallOK.useD (c_Next_N (m := 2) (by assumption)) [0] rfl rfl rfl ⟨⟨⟨_, rfl, .lit rfl (fun _ h_ => h_) (fun v hv => okB0_spec (allL_spec rfl v hv))⟩⟩, trivial⟩ (fun v_ mem_ hR => ?_); obtain ⟨x2_, o_, h_, hx2_, ha_, rfl, rfl⟩ := hR; refine ⟨rfl, ii x2_, fun _ => rfl, ?_⟩; (conv => whnf); refine mapK_eval (cs' := [.slice none 0 0, ii o_, wv h_]) rfl ?_; conv => whnf)
    | (show brK (decide (0 ≤ x2_ ∧ x2_ < _)) _ _; rcases two_of hx2_ with rfl | rfl <;> conv => whnf)
    | (show OutK _ _ _ _; (exact out_forget [] ⟨_, _, _, _, _, _, ha_, rfl, rfl⟩ rfl (okB2_spec rfl) ⟨⟨⟨_, rfl, .lit rfl rfl (fun v hv => okB0_spec (allL_spec rfl v hv))⟩⟩, trivial⟩ rfl rfl))
    | (refine StoreK.mk rfl ?_; conv => whnf)
    | exact join_same
    | exact (by assumption : (_ : Bool) = (_ : Bool))
    | (refine br_true (by assumption) ?_; conv => whnf)
    | (refine br_false (by assumption) ?_; conv => whnf)
    | (refine br_not ?_; conv => whnf)
    | (refine br_code ?_; conv => whnf)
    | (with_reducible refine br_and ?_; conv => whnf)
    | (with_reducible refine br_or ?_; conv => whnf)
    | (refine br_eq2 ?_; conv => whnf)
    | (refine draw_auto (by decide +kernel) ?_; conv => whnf)
    | (refine draw_asg (by decide +kernel) ?_; conv => whnf)
    | (refine draw_st (by decide +kernel) ?_; conv => whnf)
    | (refine draw_call (by decide +kernel) ?_; conv => whnf)
    | (refine enter_same (loop_n 12 ?_); conv => whnf)
    | (refine next_same ?_; conv => whnf)
    | (refine mapK_row (by assumption) ?_; conv => whnf)
    | (refine mapK_plain (Plain.of rfl) ?_; conv => whnf)
    | (refine mapK_lit ?_; conv => whnf)
    | (refine br_split (fun _ => ?_) (fun _ => ?_) <;> conv => whnf)
    | exact (rfl : (_ : Value) = _)
    | (simp only [*]; exact (rfl : (_ : Value) = _))
    | (simp [*]; done))

end Go.Proofs.Ytlkbfpklhncfbaa
end

section
/-
  Contracts of functions of the program (printed by a program of this work; Lean checks each).
  Conditions: as each contract states.
-/
namespace Go.Proofs.Ytlkbfpklhncfbaa
open Go.Ev Go.RowKit
set_option maxRecDepth 100000
set_option linter.unusedVariables false
set_option linter.unusedSimpArgs false

theorem c_big_L {zs : List Int} {off n c : Nat}  : CallOK Try.prog n_laws_big [.slice (some ⟨0, off, none⟩) n c] [(away off (bl zs), none)] (fun v m_ => v = bb (decide (((n : Nat) : Int) > 4096)) ∧ m_ = [(away off (bl zs), none)]) := by
  refine callOK_ofF good fn_laws_big ?_
  conv => whnf
  all_goals (repeat' first
    | (show OutK _ _ _ _; exact out_forget [] ⟨rfl, rfl⟩ rfl (okB2_spec rfl) ⟨⟨⟨_, rfl, .lit (away_conc (bl_plain _) _).symm rfl (away_ok (bl_plain _) _)⟩⟩, trivial⟩ rfl rfl)
    | (refine StoreK.mk rfl ?_; conv => whnf)
    | exact join_same
    | exact (by assumption : (_ : Bool) = (_ : Bool))
    | (refine br_true (by assumption) ?_; conv => whnf)
    | (refine br_false (by assumption) ?_; conv => whnf)
    | (refine br_not ?_; conv => whnf)
    | (refine br_code ?_; conv => whnf)
    | (with_reducible refine br_and ?_; conv => whnf)
    | (with_reducible refine br_or ?_; conv => whnf)
    | (refine br_eq2 ?_; conv => whnf)
    | (refine draw_auto (by decide +kernel) ?_; conv => whnf)
    | (refine draw_asg (by decide +kernel) ?_; conv => whnf)
    | (refine draw_st (by decide +kernel) ?_; conv => whnf)
    | (refine draw_call (by decide +kernel) ?_; conv => whnf)
    | (refine enter_same (loop_n 12 ?_); conv => whnf)
    | (refine next_same ?_; conv => whnf)
    | (refine mapK_row (by assumption) ?_; conv => whnf)
    | (refine mapK_plain (Plain.of rfl) ?_; conv => whnf)
    | (refine mapK_lit ?_; conv => whnf)
    | (refine br_split (fun _ => ?_) (fun _ => ?_) <;> conv => whnf)
    | exact (rfl : (_ : Value) = _)
    | (simp only [*]; exact (rfl : (_ : Value) = _))
    | (simp [*]; done))

theorem c_big_N   : CallOK Try.prog n_laws_big [.slice none 0 0] [] (fun v m_ => v = bb (decide (((0 : Nat) : Int) > 4096)) ∧ m_ = []) := by
  refine callOK_ofF good fn_laws_big ?_
  conv => whnf
  all_goals (repeat' first
    | (show OutK _ _ _ _; exact out_forget [] ⟨rfl, rfl⟩ rfl (okB2_spec rfl) trivial rfl rfl)
    | (refine StoreK.mk rfl ?_; conv => whnf)
    | exact join_same
    | exact (by assumption : (_ : Bool) = (_ : Bool))
    | (refine br_true (by assumption) ?_; conv => whnf)
    | (refine br_false (by assumption) ?_; conv => whnf)
    | (refine br_not ?_; conv => whnf)
    | (refine br_code ?_; conv => whnf)
    | (with_reducible refine br_and ?_; conv => whnf)
    | (with_reducible refine br_or ?_; conv => whnf)
    | (refine br_eq2 ?_; conv => whnf)
    | (refine draw_auto (by decide +kernel) ?_; conv => whnf)
    | (refine draw_asg (by decide +kernel) ?_; conv => whnf)
    | (refine draw_st (by decide +kernel) ?_; conv => whnf)
    | (refine draw_call (by decide +kernel) ?_; conv => whnf)
    | (refine enter_same (loop_n 12 ?_); conv => whnf)
    | (refine next_same ?_; conv => whnf)
    | (refine mapK_row (by assumption) ?_; conv => whnf)
    | (refine mapK_plain (Plain.of rfl) ?_; conv => whnf)
    | (refine mapK_lit ?_; conv => whnf)
    | (refine br_split (fun _ => ?_) (fun _ => ?_) <;> conv => whnf)
    | exact (rfl : (_ : Value) = _)
    | (simp only [*]; exact (rfl : (_ : Value) = _))
    | (simp [*]; done))

end Go.Proofs.Ytlkbfpklhncfbaa
end

section
/-
  Corners from lists and tangents: expansions lead back, sums are normal. The plain law.
  Conditions: none.
-/
set_option linter.unusedVariables false
set_option linter.unusedSimpArgs false
namespace Go.Ev

/-! ### Normal corners -/
theorem mate10 : mateX 1 0 = 0 ∧ mateY 1 0 = 1 := by
  have h1 : isPtF 1 0 = true := isPtF_iff.2 (by omega)
  have h2 : primF 1 0 = true := by unfold primF; rw [gcdF_eq (by omega) (by omega)]; rfl
  have h3 := mate_det h1 h2
  have h4 : mateX 1 0 = 0 := by unfold mateX; simp [Int.emod_one]
  exact ⟨h4, by omega⟩
theorem det10 {c s : Int} (hs : -1000000 ≤ s ∧ s ≤ 1000000) : detF 1 0 c s = s := by
  unfold detF
  rw [Int.one_mul, Int.zero_mul, w64_in (n := s) (by omega) (by omega), w64_in (n := 0) (by omega) (by omega), Int.sub_zero, w64_in (by omega) (by omega)]
theorem twist10 {c s : Int} (hc : -1000000 ≤ c ∧ c ≤ 1000000) (hs : -1000000 ≤ s ∧ s ≤ 1000000) : twistF 1 0 c s = c := by
  unfold twistF
  rw [mate10.1, mate10.2]
  unfold detF
  rw [Int.mul_one, Int.mul_zero, w64_in (n := c) (by omega) (by omega), w64_in (n := 0) (by omega) (by omega), Int.sub_zero, w64_in (by omega) (by omega)]
structure TanOk (s c : Int) : Prop where
  c1 : 1 ≤ c
  cs : c ≤ s
  s6 : s ≤ 1000000
  g : Int.gcd s c = 1
theorem TanOk.norm {s c : Int} (h : TanOk s c) : isCornF 1 0 c s = true ∧ bigF 1 0 c s = false ∧ sineF 1 0 c s = s ∧ cosF 1 0 c s = c := by
  obtain ⟨h1, h2, h3, h4⟩ := h
  have hd := det10 (c := c) (s := s) (by omega)
  have hpt : isPtF c s = true := isPtF_iff.2 (by omega)
  have hp1 : isPtF 1 0 = true := isPtF_iff.2 (by omega)
  have hpr : primF c s = true := by
    unfold primF
    rw [gcdF_eq (by omega) (by omega), Int.gcd_comm, h4]; rfl
  have hsn : sineF 1 0 c s = s := by rw [sine_pt hp1 hpt, hd]; omega
  refine ⟨?_, ?_, hsn, ?_⟩
  · unfold isCornF
    rw [hd, hpt, hpr, hp1, show primF 1 0 = true by unfold primF; rw [gcdF_eq (by omega) (by omega)]; rfl, decide_eq_false (show ¬ s = 0 by omega)]
    rfl
  · unfold bigF; rw [hsn]; exact decide_eq_false (by omega)
  · unfold cosF
    rw [hsn, twist10 (by omega) (by omega)]
    by_cases hcs : c = s
    · subst hcs; rw [Int.emod_self, if_pos rfl]
    · rw [Int.emod_eq_of_lt (by omega) (by omega), if_neg (by omega)]
/-- Sine and cosine of a corner are coprime. -/
theorem corn_gcd {a b c d : Int} (h : isCornF a b c d = true) : Int.gcd (sineF a b c d) (cosF a b c d) = 1 := by
  have hs := sine_corn h
  obtain ⟨p1, p2, q1, q2, hne⟩ := isCornF_iff.1 h
  have e1 := (det_pt p2 (mate_pt p1)).1
  have e2 := (det_pt p1 p2).1
  have hm := mate_det p1 q1
  have hg := prim_gcd p2 q2
  have hc : cosF a b c d % sineF a b c d = twistF a b c d % sineF a b c d := by
    unfold cosF
    split
    · rename_i h0; rw [Int.emod_self, h0]
    · exact Int.emod_emod_of_dvd _ (Int.dvd_refl _)
  have hgt : Int.gcd (detF c d (mateX a b) (mateY a b)) (detF a b c d) = 1 := by
    rw [e1, e2]
    generalize mateX a b = m0 at *
    generalize mateY a b = m1 at *
    have g1 := Int.gcd_dvd_left (c * m1 - d * m0) (a * d - b * c)
    have g2 := Int.gcd_dvd_right (c * m1 - d * m0) (a * d - b * c)
    have i1 : ((Int.gcd (c * m1 - d * m0) (a * d - b * c) : Nat) : Int) ∣ c := by
      have : c = a * (c * m1 - d * m0) + m0 * (a * d - b * c) := by
        have : a * (c * m1 - d * m0) + m0 * (a * d - b * c) = c * (a * m1 - b * m0) := by grind
        rw [this, hm, Int.mul_one]
      have k := Int.dvd_add (Int.dvd_mul_of_dvd_right (b := a) g1) (Int.dvd_mul_of_dvd_right (b := m0) g2)
      rw [← this] at k
      exact k
    have i2 : ((Int.gcd (c * m1 - d * m0) (a * d - b * c) : Nat) : Int) ∣ d := by
      have : d = b * (c * m1 - d * m0) + m1 * (a * d - b * c) := by
        have : b * (c * m1 - d * m0) + m1 * (a * d - b * c) = d * (a * m1 - b * m0) := by grind
        rw [this, hm, Int.mul_one]
      have k := Int.dvd_add (Int.dvd_mul_of_dvd_right (b := b) g1) (Int.dvd_mul_of_dvd_right (b := m1) g2)
      rw [← this] at k
      exact k
    have := Int.dvd_gcd i1 i2
    rw [hg] at this
    exact Nat.dvd_one.1 this
  have ht : Int.gcd (sineF a b c d) (twistF a b c d) = 1 := by
    rw [hs.2.2, Int.gcd_comm]
    unfold twistF
    rw [← hgt]
    simp [Int.gcd, Int.natAbs_natCast]
  have e3 : Int.gcd (sineF a b c d) (cosF a b c d) = Int.gcd (sineF a b c d) (cosF a b c d % sineF a b c d) := by rw [Int.gcd_comm, Int.gcd_comm (sineF a b c d) (cosF a b c d % _), gcd_emod']
  have e4 : Int.gcd (sineF a b c d) (twistF a b c d) = Int.gcd (sineF a b c d) (twistF a b c d % sineF a b c d) := by rw [Int.gcd_comm, Int.gcd_comm (sineF a b c d) (twistF a b c d % _), gcd_emod']
  rw [e3, hc, ← e4, ht]
theorem corn_tan {a b c d : Int} (h : isCornF a b c d = true) (h2 : bigF a b c d = false) : TanOk (sineF a b c d) (cosF a b c d) :=
  ⟨(cos_bounds h).1, (cos_bounds h).2, by have : ¬ sineF a b c d > 1000000 := of_decide_eq_false h2; omega, corn_gcd h⟩

/-! ### Expansions lead back -/
theorem w64_go {x : Int} (h : -1000000 ≤ x ∧ x ≤ 1000000) {c p q : Int} (e : c * p + q = x) : isCoordF (w64 (w64 (c * p) + q)) = true ∧ w64 (w64 (c * p) + q) = x := by
  rw [w64_add_l, e, w64_in (by omega) (by omega)]
  exact ⟨isCoordF_iff.2 h, rfl⟩
theorem ofGo_expL : ∀ (k : Nat) {p q : Int}, q.toNat ≤ k → 0 ≤ p → p ≤ 1000000 → 0 ≤ q → q ≤ 1000000 → Int.gcd p q = 1 → ofGo (expL p q).reverse 1 0 = some (p, q)
  | 0, p, q, hk, h1, h2, h3, h4, hg => by
    obtain rfl : q = 0 := by omega
    rw [expL_zero (by omega)]
    rw [Int.gcd_zero_right] at hg
    obtain rfl : p = 1 := by omega
    rfl
  | k + 1, p, q, hk, h1, h2, h3, h4, hg => by
    by_cases hq : 0 < q
    · rw [expL_step hq, List.reverse_cons, ofGo_app]
      have hm1 := Int.emod_nonneg p (show q ≠ 0 by omega)
      have hm2 := Int.emod_lt_of_pos p hq
      have hg2 : Int.gcd q (p % q) = 1 := by rw [Int.gcd_comm, gcd_emod']; exact hg
      rw [ofGo_expL k (by omega) (by omega) h4 hm1 (by omega) hg2]
      have e : p / q * q + p % q = p := by have := Int.mul_ediv_add_emod p q; rw [Int.mul_comm]; exact this
      have hw := w64_go (x := p) (by omega) e
      simp only [Option.bind_some, ofGo]
      rw [if_pos hw.1, hw.2]
    · obtain rfl : q = 0 := by omega
      rw [expL_zero (by omega)]
      rw [Int.gcd_zero_right] at hg
      obtain rfl : p = 1 := by omega
      rfl
theorem ofGo_long {xs : List Int} (h0 : 0 < xs.length) (h : ∀ c ∈ xs, 0 ≤ c ∧ c ≤ 1000000) {r : Int × Int} (hr : ofGo xs.reverse 1 0 = some r) : ofGo (longL xs).reverse 1 0 = some r := by
  by_cases ho : xs.length % 2 = 1
  · rw [longL_odd ho]; exact hr
  · rw [longL_even ho]
    rcases List.eq_nil_or_concat xs with rfl | ⟨ys, y, rfl⟩
    · simp at h0
    · rw [List.concat_eq_append] at *
      have hy := h y (by simp)
      have e1 : (ys ++ [y]).take ((ys ++ [y]).length - 1) = ys := by simp
      have e2 : (ys ++ [y]).getD ((ys ++ [y]).length - 1) 0 = y := by simp [List.getD]
      rw [e1, e2, w64_in (by omega) (by omega)]
      rw [List.reverse_append] at hr ⊢
      have l1 : ofGo [y].reverse 1 0 = some (y, 1) := by
        have := w64_go (x := y) (c := y) (p := 1) (q := 0) (by omega) (by omega)
        show ofGo [y] 1 0 = _
        rw [ofGo, if_pos this.1, this.2, ofGo]
      have l2 : ofGo [y - 1, 1].reverse 1 0 = some (y, 1) := by
        have h1 := w64_go (x := 1) (c := 1) (p := 1) (q := 0) (by omega) (by omega)
        have h2 := w64_go (x := y) (c := y - 1) (p := 1) (q := 1) (by omega) (by omega)
        show ofGo [1, y - 1] 1 0 = _
        rw [ofGo, if_pos h1.1, h1.2, ofGo, if_pos h2.1, h2.2, ofGo]
      rw [ofGo_app, l1] at hr
      rw [ofGo_app, l2]
      exact hr
theorem expL_len : ∀ (k : Nat) {p q : Int}, 0 ≤ q → q < (2 ^ k : Nat) → (expL p q).length ≤ 2 * k
  | 0, p, q, h1, h2 => by rw [expL_zero (by simp at h2; omega)]; simp
  | k + 1, p, q, h1, h2 => by
    by_cases hq : 0 < q
    · rw [expL_step hq]
      have hm1 := Int.emod_nonneg p (show q ≠ 0 by omega)
      have hm2 := Int.emod_lt_of_pos p hq
      generalize p % q = r at *
      by_cases hr : 0 < r
      · rw [expL_step hr]
        have hn1 := Int.emod_nonneg q (show r ≠ 0 by omega)
        have hn2 := Int.emod_lt_of_pos q hr
        have hn3 : r + q % r ≤ q := by
          have e := Int.mul_ediv_add_emod q r
          have hd : 1 ≤ q / r := by
            rcases (by omega : q / r ≤ 0 ∨ 1 ≤ q / r) with hd | hd
            · have : r * (q / r) ≤ r * 0 := Int.mul_le_mul_of_nonneg_left hd (by omega)
              omega
            · exact hd
          have : r * 1 ≤ r * (q / r) := Int.mul_le_mul_of_nonneg_left hd (by omega)
          omega
        have e2 : ((2 ^ (k + 1) : Nat) : Int) = 2 * ((2 ^ k : Nat) : Int) := by rw [Nat.pow_succ]; omega
        have := expL_len k (p := r) (q := q % r) hn1 (by omega)
        simp only [List.length_cons]; omega
      · rw [expL_zero hr]; simp only [List.length_cons, List.length_nil]; omega
    · rw [expL_zero hq]; simp
theorem longL_len {xs : List Int} : (longL xs).length ≤ xs.length + 2 := by
  unfold longL
  split
  · omega
  · simp only [List.length_append, List.length_take, List.length_cons, List.length_nil]; omega
theorem longL_isOdd {xs : List Int} (h : 0 < xs.length) : (longL xs).length % 2 = 1 := by
  unfold longL
  split
  · assumption
  · simp only [List.length_append, List.length_take, List.length_cons, List.length_nil]; omega
theorem longL_fits {xs : List Int} (h : ∀ c ∈ xs, 0 ≤ c ∧ c ≤ 1000000) : ∀ c ∈ longL xs, isCoordF c = true := by
  intro c hc
  unfold longL at hc
  rw [isCoordF_iff]
  split at hc
  · have := h c hc; omega
  · rcases List.mem_append.1 hc with hc | hc
    · have := h c (List.mem_of_mem_take hc); omega
    · have hl : 0 ≤ xs.getD (xs.length - 1) 0 ∧ xs.getD (xs.length - 1) 0 ≤ 1000000 := by
        rcases Nat.lt_or_ge (xs.length - 1) xs.length with h1 | h1
        · exact h _ (getD_mem h1)
        · have : xs = [] := List.length_eq_zero_iff.1 (by omega)
          subst this
          exact ⟨by decide, by decide⟩
      rcases List.mem_cons.1 hc with rfl | hc
      · rw [w64_in (by omega) (by omega)]; omega
      · rw [List.mem_singleton] at hc; subst hc; omega

/-! ### Drawn lists -/
open Go.RowKit in
structure DcI (k0 k : Int) (X : List Int) (S : List Value) (q e : Nat) : Prop where
  row : Row (il X) S q e 1
  sum : (q : Int) + k = k0
  k1 : 0 ≤ k
  b1 : 1 ≤ k0
  b7 : k0 ≤ 7
section
variable {k0 k v : Int} {X : List Int} {S S' : List Value} {q e e' : Nat}
theorem DcI.start {x : Int} (h : 0 ≤ x ∧ x < 4) : DcI (w64 (w64 (2 * x) + 1)) (w64 (w64 (2 * x) + 1)) [] [] 0 0 := by
  rw [w64_in (n := 2 * x) (by omega) (by omega), w64_in (by omega) (by omega)]
  exact ⟨Row.lit rfl rfl, by simp, by omega, by omega, by omega⟩
theorem DcI.next (h : DcI k0 k X S q e) (hk : decide (k > 0) = true) (hr : Row (il X ++ [iv v]) S' (q + 1) e' 1) : DcI k0 (w64 (k - 1)) (X ++ [v]) S' (q + 1) e' := by
  have := of_decide_eq_true hk
  have h1 := h.sum
  have h2 := h.b7
  rw [w64_in (by omega) (by omega)]
  exact ⟨by rw [show il (X ++ [v]) = il X ++ [iv v] by simp [il]]; exact hr, by omega, by omega, h.b1, h2⟩
theorem DcI.mu (h : DcI k0 k X S q e) (hk : decide (k > 0) = true) : (w64 (k - 1)).toNat < k.toNat := by
  have := of_decide_eq_true hk
  have h1 := h.sum
  have h2 := h.b7
  rw [w64_in (by omega) (by omega)]; omega
theorem DcI.bd (h : DcI k0 k X S q e) : q ≤ 7 := by
  have := h.sum; have := h.b7; have := h.k1; omega
theorem DcI.pos (h : DcI k0 k X S q e) (hk : decide (k > 0) = false) : 1 ≤ q := by
  have := of_decide_eq_false hk
  have := h.sum; have := h.b1; have := h.k1; omega
structure LsI (X : List Int) (S : List Value) (q e : Nat) : Prop where
  row : Row (il X) S q e 1
  le : q ≤ 61
theorem LsI.next (h : LsI X S q e) (hk : decide ((q : Int) < 61) = true) (hr : Row (il X ++ [iv v]) S' (q + 1) e' 1) : LsI (X ++ [v]) S' (q + 1) e' := by
  have := of_decide_eq_true hk
  exact ⟨by rw [show il (X ++ [v]) = il X ++ [iv v] by simp [il]]; exact hr, by omega⟩
theorem row_set0 (h : Row (il X) S q e 1) (v : Int) : Row (il (X.set 0 v)) S q e 1 := by
  have hl : (il (X.set 0 v)).length = (il X).length := by simp [il]
  exact ⟨by rw [hl]; exact h.len, by rw [hl]; exact h.cap, il_plain _, h.ps⟩
end

/-! ### The first number that is no coordinate -/
def idxI (p : Int → Bool) : List Int → Int → Int
  | [], _ => -1
  | x :: xs, k => if p x = true then k else idxI p xs (k + 1)
theorem idxI_ge (p : Int → Bool) : ∀ (xs : List Int) (k : Int), 0 ≤ k → decide (idxI p xs k ≥ 0) = xs.any p
  | [], k, hk => by simp [idxI]
  | x :: xs, k, hk => by
    rw [idxI, List.any_cons]
    cases h : p x
    · rw [if_neg (by simp), idxI_ge p xs (k + 1) (by omega), Bool.false_or]
    · rw [if_pos rfl, Bool.true_or]; exact decide_eq_true hk
structure FirI (p : Int → Bool) (xs : List Int) (i : Int) : Prop where
  lo : 0 ≤ i
  hi : i ≤ (xs.length : Int)
  eq : idxI p (xs.drop i.toNat) i = idxI p xs 0
section
variable {p : Int → Bool} {xs : List Int} {i : Int}
theorem FirI.start : FirI p xs 0 := ⟨by omega, by omega, rfl⟩
theorem dropI {k : Nat} (h : k < xs.length) : xs.drop k = xs.getD k 0 :: xs.drop (k + 1) := by
  rw [List.drop_eq_getElem_cons h]; simp [List.getD, h]
theorem FirI.hit (h : FirI p xs i) (hi : i < (xs.length : Int)) (hp : p (xs.getD i.toNat 0) = true) : idxI p xs 0 = i := by
  have h0 := h.lo
  rw [← h.eq, dropI (by omega), idxI, if_pos hp]
theorem FirI.next (h : FirI p xs i) (hi : i < (xs.length : Int)) (hl : xs.length ≤ 1048576) (hp : p (xs.getD i.toNat 0) = false) : FirI p xs (w64 (i + 1)) := by
  have h0 := h.lo
  rw [w64_in (by omega) (by omega)]
  refine ⟨by omega, by omega, ?_⟩
  rw [← h.eq, dropI (k := i.toNat) (by omega), idxI, hp, show (i + 1).toNat = i.toNat + 1 by omega]
  rfl
theorem FirI.fin (h : FirI p xs i) (hi : ¬ i < (xs.length : Int)) : idxI p xs 0 = -1 := by
  have h0 := h.hi
  rw [← h.eq, List.drop_eq_nil_of_le (by omega)]
  rfl
theorem FirI.mu (h : FirI p xs i) (hi : i < (xs.length : Int)) (hl : xs.length ≤ 1048576) : ((xs.length : Int) - w64 (i + 1)).toNat < ((xs.length : Int) - i).toNat := by
  have h0 := h.lo
  rw [w64_in (by omega) (by omega)]; omega
/-- All ahead of i are coordinates. -/
structure AllI (xs : List Int) (i : Int) : Prop where
  lo : 0 ≤ i
  hi : i ≤ (xs.length : Int)
  ok : ∀ j : Nat, (j : Int) < i → isCoordF (xs.getD j 0) = true
theorem AllI.start : AllI xs 0 := ⟨by omega, by omega, fun j hj => by omega⟩
theorem AllI.next (h : AllI xs i) (hi : i < (xs.length : Int)) (hl : xs.length ≤ 1048576) (hp : isCoordF (xs.getD i.toNat 0) = true) : AllI xs (w64 (i + 1)) := by
  have h0 := h.lo
  rw [w64_in (by omega) (by omega)]
  refine ⟨by omega, by omega, fun j hj => ?_⟩
  by_cases hji : (j : Int) < i
  · exact h.ok j hji
  · rw [show j = i.toNat by omega]; exact hp
theorem AllI.mu (h : AllI xs i) (hi : i < (xs.length : Int)) (hl : xs.length ≤ 1048576) : ((xs.length : Int) - w64 (i + 1)).toNat < ((xs.length : Int) - i).toNat := by
  have h0 := h.lo
  rw [w64_in (by omega) (by omega)]; omega
theorem AllI.all (h : AllI xs i) (hi : ¬ i < (xs.length : Int)) : xs.all isCoordF = true := by
  rw [List.all_eq_true]
  intro x hx
  obtain ⟨j, hj, rfl⟩ := List.getElem_of_mem hx
  have := h.ok j (by omega)
  simpa [List.getD, List.getElem?_eq_getElem hj] using this
theorem AllI.bad (h : xs.all isCoordF = true) (h0 : 0 ≤ i) (hi : i < (xs.length : Int)) : isCoordF (xs.getD i.toNat 0) = true := List.all_eq_true.1 h _ (getD_mem (by omega))
theorem any_all : (xs.any fun c => !isCoordF c) = !xs.all isCoordF := by
  induction xs with
  | nil => rfl
  | cons x xs ih => rw [List.any_cons, List.all_cons, ih]; cases isCoordF x <;> rfl
end

/-! ### What the functions hand back -/
abbrev I5 := Int × Int × Int × Int × Int
def okTan (s c : Int) : Bool := inF s 1 1000000 && (inF c 1 s && decide (gcdF s c = 1))
def tanT (s c : Int) : I5 := if okTan s c = true then (1, 0, c, s, 0) else (0, 0, 0, 0, 2)
theorem okTan_ok {s c : Int} (h : okTan s c = true) : TanOk s c := by
  unfold okTan inF at h
  simp only [Bool.and_eq_true, decide_eq_true_eq] at h
  obtain ⟨⟨h1, h2⟩, ⟨h3, h4⟩, h5⟩ := h
  rw [gcdF_eq (by omega) (by omega)] at h5
  exact ⟨h3, h4, h2, by omega⟩
def norT (a b c d : Int) : I5 := if isCornF a b c d = true then (if bigF a b c d = true then (0, 0, 0, 0, 3) else (1, 0, cosF a b c d, sineF a b c d, 0)) else (0, 0, 0, 0, 1)
def goT (o : Option (Int × Int)) : I5 := match o with
  | none => (0, 0, 0, 0, 3)
  | some (p, q) => if p = 0 then (0, 0, 0, 0, 5) else (1, 0, q, p, 0)
def okLst (xs : List Int) : Bool := decide (xs.length % 2 = 1) && (decide (xs.length ≤ 60) && xs.all isCoordF)
theorem okLst_iff {xs : List Int} : okLst xs = true ↔ xs.length % 2 = 1 ∧ xs.length ≤ 60 ∧ xs.all isCoordF = true := by
  unfold okLst
  simp only [Bool.and_eq_true, decide_eq_true_eq]
def lstT (xs : List Int) : I5 := if okLst xs = true then goT (ofGo xs.reverse 1 0) else (0, 0, 0, 0, 2)
def goN (o : Option (Int × Int)) : I5 := match o with
  | none => (0, 0, 0, 0, 3)
  | some (p, q) => if p = 0 then (0, 0, 0, 0, 5) else (1, 0, cosF 1 0 q p, sineF 1 0 q p, 0)
def sumT (a b c d e f g i m : Int) : I5 :=
  if (isCornF a b c d && isCornF e f g i) = true then
    if isCoordF m = true then
      if (bigF a b c d || bigF e f g i) = true then (0, 0, 0, 0, 3) else
      if (sumL (longL (expL (sineF a b c d) (cosF a b c d))) (longL (expL (sineF e f g i) (cosF e f g i))) m).length ≤ 60 then goN (ofGo (sumL (longL (expL (sineF a b c d) (cosF a b c d))) (longL (expL (sineF e f g i) (cosF e f g i))) m).reverse 1 0) else (0, 0, 0, 0, 3)
    else (0, 0, 0, 0, 2)
  else (0, 0, 0, 0, 1)
/-- A normal corner is its own normal corner. -/
structure NorOk (t : I5) : Prop where
  nor : t.2.2.2.2 = 0 → norT t.1 t.2.1 t.2.2.1 t.2.2.2.1 = t
theorem TanOk.nor {s c : Int} (h : TanOk s c) : norT 1 0 c s = (1, 0, c, s, 0) := by
  obtain ⟨h1, h2, h3, h4⟩ := h.norm
  unfold norT
  rw [h1, h2, h3, h4]
  rfl
theorem sum_nor {a b c d e f g i m : Int} : NorOk (sumT a b c d e f g i m) := by
  refine ⟨fun h0 => ?_⟩
  revert h0
  unfold sumT
  split
  · rename_i hk
    rw [Bool.and_eq_true] at hk
    split
    · rename_i hm
      split
      · intro h0; cases h0
      · rename_i hb
        have hb' : bigF a b c d = false ∧ bigF e f g i = false := by
          cases h1 : bigF a b c d <;> cases h2 : bigF e f g i <;> simp_all
        split
        · unfold goN
          cases hg : ofGo (sumL (longL (expL (sineF a b c d) (cosF a b c d))) (longL (expL (sineF e f g i) (cosF e f g i))) m).reverse 1 0 with
          | none => intro h0; cases h0
          | some r =>
            obtain ⟨p, q⟩ := r
            simp only
            by_cases hp : p = 0
            · rw [if_pos hp]; intro h0; cases h0
            · rw [if_neg hp]
              intro _
              have hc := sum_corn hk.1 hb'.1 hk.2 hb'.2 hm hg hp
              have hbd := ofGo_bd _ (fun x hx => by
                rw [List.mem_reverse] at hx
                unfold sumL at hx
                rw [isCoordF_iff] at hm
                simp only [List.mem_append, List.mem_singleton] at hx
                rcases hx with (hx | hx) | hx
                · exact corn_long hk.1 hb'.1 x hx
                · omega
                · exact corn_long hk.2 hb'.2 x hx) (by omega) (by omega) (by decide) hg
              have hbig : bigF 1 0 q p = false := by
                obtain ⟨p1, p2, _⟩ := isCornF_iff.1 hc
                unfold bigF
                rw [sine_pt p1 p2, det10 (by omega)]
                exact decide_eq_false (by omega)
              exact (corn_tan hc hbig).nor
        · intro h0; cases h0
    · intro h0; cases h0
  · intro h0; cases h0
/-- The corner of the long expansion is the normal corner. -/
theorem back_nor {a b c d : Int} (h : isCornF a b c d = true) (h2 : bigF a b c d = false) : lstT (longL (expL (sineF a b c d) (cosF a b c d))) = norT a b c d ∧ (longL (expL (sineF a b c d) (cosF a b c d))).length % 2 = 1 ∧ norT a b c d = (1, 0, cosF a b c d, sineF a b c d, 0) := by
  have ht := corn_tan h h2
  have hx := corn_exp h h2
  obtain ⟨t1, t2, t3, t4⟩ := ht
  have hb := expL_bd _ (p := sineF a b c d) (q := cosF a b c d) (Nat.le_refl _) (by omega) t3 (by omega)
  have hgo := ofGo_long (expL_pos (p := sineF a b c d) (q := cosF a b c d) (by omega)) hb (ofGo_expL _ (Nat.le_refl _) (by omega) t3 (by omega) (by omega) t4)
  have h20 : ((2 ^ 20 : Nat) : Int) = 1048576 := by decide
  have hl := expL_len 20 (p := sineF a b c d) (q := cosF a b c d) (by omega) (by rw [h20]; omega)
  have hl2 := longL_len (xs := expL (sineF a b c d) (cosF a b c d))
  have ho := longL_isOdd (expL_pos (p := sineF a b c d) (q := cosF a b c d) (by omega))
  have hok : okLst (longL (expL (sineF a b c d) (cosF a b c d))) = true := by
    unfold okLst
    simp only [Bool.and_eq_true, decide_eq_true_eq, List.all_eq_true]
    exact ⟨ho, by omega, longL_fits hb⟩
  have hn : norT a b c d = (1, 0, cosF a b c d, sineF a b c d, 0) := by unfold norT; rw [h, h2]; rfl
  refine ⟨?_, ho, hn⟩
  unfold lstT
  rw [if_pos hok, hgo, hn]
  show (if sineF a b c d = 0 then _ else _) = _
  rw [if_neg (by omega)]
end Go.Ev
end

section
/-
  Contracts of functions of the program (printed by a program of this work; Lean checks each).
  Conditions: as each contract states.
-/
namespace Go.Proofs.Ytlkbfpklhncfbaa
open Go.Ev Go.RowKit
set_option maxRecDepth 100000
set_option linter.unusedVariables false
set_option linter.unusedSimpArgs false

set_option maxHeartbeats 1000000 in
theorem c_Near_L {zs : List Int} {off n c : Nat} {o h m : Int} (hz : n ≤ zs.length) (hb : ∀ z ∈ zs, IsByte z) (hn : n ≤ 4096) (ha : SrcAt n o) : CallOK Try.prog n_spec_l01Near [.pointer (some ⟨1, 0, none⟩), ii m] [(away off (bl zs), none), ([.slice (some ⟨0, off, none⟩) n c, ii o, wv h], some t_spec_l01Source)] (fun v m_ => ∃ y o2 h2, SrcAt n o2 ∧ v = ii y ∧ m_ = [(away off (bl zs), none), ([.slice (some ⟨0, off, none⟩) n c, ii o2, wv h2], some t_spec_l01Source)]) := by
  refine callOK_ofF good fn_spec_l01Near ?_
  conv => whnf
  all_goals (repeat' first
    | (refine CallOK.useD (c_Next_L (m := 14) hz hb hn (by assumption)) [0, 1] rfl rfl rfl ⟨⟨⟨_, rfl, .lit (away_conc (bl_plain _) _).symm (fun _ h_ => by cases h_) (away_ok (bl_plain _) _)⟩⟩, ⟨⟨_, rfl, .lit rfl (fun _ h_ => h_) (fun v hv => okB0_spec (allL_spec rfl v hv))⟩⟩, trivial⟩ (fun v_ mem_ hR => ?_); obtain ⟨x14_, o_, h_, hx14_, ha_, rfl, rfl⟩ := hR; refine ⟨rfl, ii x14_, fun _ => rfl, ?_⟩; (conv => whnf); refine mapK_eval (cs' := [.slice (some ⟨0, off, none⟩) n c, ii o_, wv h_]) rfl ?_; conv => whnf)
    | (refine CallOK.useD (c_Next_L hz hb hn (by assumption)) [0, 1] rfl rfl rfl ⟨⟨⟨_, rfl, .lit (away_conc (bl_plain _) _).symm (fun _ h_ => by cases h_) (away_ok (bl_plain _) _)⟩⟩, ⟨⟨_, rfl, .lit rfl (fun _ h_ => h_) (fun v hv => okB0_spec (allL_spec rfl v hv))⟩⟩, trivial⟩ (fun v_ mem_ hR => ?_); obtain ⟨x_, o_, h_, hx_, ha_, rfl, rfl⟩ := hR; refine ⟨rfl, ii x_, fun _ => rfl, ?_⟩; (conv => whnf); refine mapK_eval (cs' := [.slice (some ⟨0, off, none⟩) n c, ii o_, wv h_]) rfl ?_; conv => whnf)
    | (refine CallOK.useD (c_Pick_L (xs := [-1, w64 (m + 1), 1099511627776, -4611686018427387904]) hz hb hn (by assumption) (Nat.le_of_ble_eq_true rfl) (Nat.le_of_ble_eq_true rfl)) [0, 1, 2] rfl rfl rfl ⟨⟨⟨_, rfl, .lit (away_conc (bl_plain _) _).symm (fun _ h_ => by cases h_) (away_ok (bl_plain _) _)⟩⟩, ⟨⟨_, rfl, .lit rfl (fun _ h_ => h_) (fun v hv => okB0_spec (allL_spec rfl v hv))⟩⟩, ⟨⟨_, rfl, .plain rfl (fun _ h_ => by cases h_) (il_plain _)⟩⟩, trivial⟩ (fun v_ mem_ hR => ?_); obtain ⟨y_, o_, h_, ha_, rfl, rfl⟩ := hR; refine ⟨rfl, ii y_, fun _ => rfl, ?_⟩; (conv => whnf); refine mapK_eval (cs' := [.slice (some ⟨0, off, none⟩) n c, ii o_, wv h_]) rfl ?_; conv => whnf)
    | (show OutK _ _ _ _; (exact out_forget [] ⟨_, _, _, ha_, rfl, rfl⟩ rfl (okB2_spec rfl) ⟨⟨⟨_, rfl, .lit (away_conc (bl_plain _) _).symm rfl (away_ok (bl_plain _) _)⟩⟩, ⟨⟨_, rfl, .lit rfl rfl (fun v hv => okB0_spec (allL_spec rfl v hv))⟩⟩, trivial⟩ rfl rfl))
    | (refine StoreK.mk rfl ?_; conv => whnf)
    | exact join_same
    | exact (by assumption : (_ : Bool) = (_ : Bool))
    | (refine br_true (by assumption) ?_; conv => whnf)
    | (refine br_false (by assumption) ?_; conv => whnf)
    | (refine br_not ?_; conv => whnf)
    | (refine br_code ?_; conv => whnf)
    | (with_reducible refine br_and ?_; conv => whnf)
    | (with_reducible refine br_or ?_; conv => whnf)
    | (refine br_eq2 ?_; conv => whnf)
    | (refine draw_auto (by decide +kernel) ?_; conv => whnf)
    | (refine draw_asg (by decide +kernel) ?_; conv => whnf)
    | (refine draw_st (by decide +kernel) ?_; conv => whnf)
    | (refine draw_call (by decide +kernel) ?_; conv => whnf)
    | (refine enter_same (loop_n 12 ?_); conv => whnf)
    | (refine next_same ?_; conv => whnf)
    | (refine mapK_row (by assumption) ?_; conv => whnf)
    | (refine mapK_plain (Plain.of rfl) ?_; conv => whnf)
    | (refine mapK_lit ?_; conv => whnf)
    | (refine br_split (fun _ => ?_) (fun _ => ?_) <;> conv => whnf)
    | exact (rfl : (_ : Value) = _)
    | (simp only [*]; exact (rfl : (_ : Value) = _))
    | (simp [*]; done))

theorem c_DrawExp_L {zs : List Int} {off n c : Nat} (hz : n ≤ zs.length) (hb : ∀ z ∈ zs, IsByte z) (hn : n ≤ 4096) : CallOK Try.prog n_spec_DrawExpansionOfCorner [.slice (some ⟨0, off, none⟩) n c] [(away off (bl zs), none)] (fun v m_ => ∃ a1 a2 a3 a4, v = q4 a1 a2 a3 a4 ∧ m_ = [(away off (bl zs), none)]) := by
  refine callOK_ofF good fn_spec_DrawExpansionOfCorner ?_
  conv => whnf
  all_goals (repeat' first
    | (refine CallOK.useR (c_From_L hz hb hn) [0] rfl rfl rfl ⟨⟨⟨_, rfl, .lit (away_conc (bl_plain _) _).symm (fun _ h_ => by cases h_) (away_ok (bl_plain _) _)⟩⟩, trivial⟩ (fun v_ mem_ hR => ?_); obtain ⟨h_, rfl, rfl⟩ := hR; have ha_ := SrcAt.zero n; refine ⟨rfl, ?_⟩; (conv => whnf); refine mapK_eval (cs' := [.slice (some ⟨0, off, none⟩) n c, ii 0, wv h_]) rfl ?_; conv => whnf)
    | (refine CallOK.useD (c_Spoil2_L hz hb hn (by assumption)) [0, 2] rfl rfl rfl ⟨⟨⟨_, rfl, .lit (away_conc (bl_plain _) _).symm (fun _ h_ => by cases h_) (away_ok (bl_plain _) _)⟩⟩, ⟨⟨_, rfl, .lit rfl (fun _ h_ => h_) (fun v hv => okB0_spec (allL_spec rfl v hv))⟩⟩, trivial⟩ (fun v_ mem_ hR => ?_); obtain ⟨a1_, a2_, a3_, a4_, o_, h_, ha_, rfl, rfl⟩ := hR; refine ⟨rfl, q4 a1_ a2_ a3_ a4_, fun _ => rfl, ?_⟩; (conv => whnf); refine mapK_eval (cs' := [.slice (some ⟨0, off, none⟩) n c, ii o_, wv h_]) rfl ?_; conv => whnf)
    | (show OutK _ _ _ _; exact out_forget [] ⟨_, _, _, _, rfl, rfl⟩ rfl (okB2_spec rfl) ⟨⟨⟨_, rfl, .lit (away_conc (bl_plain _) _).symm rfl (away_ok (bl_plain _) _)⟩⟩, trivial⟩ rfl rfl)
    | (refine StoreK.mk rfl ?_; conv => whnf)
    | exact join_same
    | exact (by assumption : (_ : Bool) = (_ : Bool))
    | (refine br_true (by assumption) ?_; conv => whnf)
    | (refine br_false (by assumption) ?_; conv => whnf)
    | (refine br_not ?_; conv => whnf)
    | (refine br_code ?_; conv => whnf)
    | (with_reducible refine br_and ?_; conv => whnf)
    | (with_reducible refine br_or ?_; conv => whnf)
    | (refine br_eq2 ?_; conv => whnf)
    | (refine draw_auto (by decide +kernel) ?_; conv => whnf)
    | (refine draw_asg (by decide +kernel) ?_; conv => whnf)
    | (refine draw_st (by decide +kernel) ?_; conv => whnf)
    | (refine draw_call (by decide +kernel) ?_; conv => whnf)
    | (refine enter_same (loop_n 12 ?_); conv => whnf)
    | (refine next_same ?_; conv => whnf)
    | (refine mapK_row (by assumption) ?_; conv => whnf)
    | (refine mapK_plain (Plain.of rfl) ?_; conv => whnf)
    | (refine mapK_lit ?_; conv => whnf)
    | (refine br_split (fun _ => ?_) (fun _ => ?_) <;> conv => whnf)
    | exact (rfl : (_ : Value) = _)
    | (simp only [*]; exact (rfl : (_ : Value) = _))
    | (simp [*]; done))

set_option maxHeartbeats 1000000 in
theorem c_DrawTan_L {zs : List Int} {off n c : Nat} (hz : n ≤ zs.length) (hb : ∀ z ∈ zs, IsByte z) (hn : n ≤ 4096) : CallOK Try.prog n_spec_DrawCornerOfTangent [.slice (some ⟨0, off, none⟩) n c] [(away off (bl zs), none)] (fun v m_ => ∃ x y, v = t2 (ii x) (ii y) ∧ m_ = [(away off (bl zs), none)]) := by
  refine callOK_ofF good fn_spec_DrawCornerOfTangent ?_
  conv => whnf
  all_goals (repeat' first
    | (refine CallOK.useR (c_From_L hz hb hn) [0] rfl rfl rfl ⟨⟨⟨_, rfl, .lit (away_conc (bl_plain _) _).symm (fun _ h_ => by cases h_) (away_ok (bl_plain _) _)⟩⟩, trivial⟩ (fun v_ mem_ hR => ?_); obtain ⟨h_, rfl, rfl⟩ := hR; have ha_ := SrcAt.zero n; refine ⟨rfl, ?_⟩; (conv => whnf); refine mapK_eval (cs' := [.slice (some ⟨0, off, none⟩) n c, ii 0, wv h_]) rfl ?_; conv => whnf)
    | (refine CallOK.useD (c_Next_L (m := 30) hz hb hn (by assumption)) [0, 1] rfl rfl rfl ⟨⟨⟨_, rfl, .lit (away_conc (bl_plain _) _).symm (fun _ h_ => by cases h_) (away_ok (bl_plain _) _)⟩⟩, ⟨⟨_, rfl, .lit rfl (fun _ h_ => h_) (fun v hv => okB0_spec (allL_spec rfl v hv))⟩⟩, trivial⟩ (fun v_ mem_ hR => ?_); obtain ⟨x30_, o_, h_, hx30_, ha_, rfl, rfl⟩ := hR; refine ⟨rfl, ii x30_, fun _ => rfl, ?_⟩; (conv => whnf); refine mapK_eval (cs' := [.slice (some ⟨0, off, none⟩) n c, ii o_, wv h_]) rfl ?_; conv => whnf)
    | (refine CallOK.useD (c_Near_L hz hb hn (by assumption)) [0, 1] rfl rfl rfl ⟨⟨⟨_, rfl, .lit (away_conc (bl_plain _) _).symm (fun _ h_ => by cases h_) (away_ok (bl_plain _) _)⟩⟩, ⟨⟨_, rfl, .lit rfl (fun _ h_ => h_) (fun v hv => okB0_spec (allL_spec rfl v hv))⟩⟩, trivial⟩ (fun v_ mem_ hR => ?_); obtain ⟨y_, o_, h_, ha_, rfl, rfl⟩ := hR; refine ⟨rfl, ii y_, fun _ => rfl, ?_⟩; (conv => whnf); refine mapK_eval (cs' := [.slice (some ⟨0, off, none⟩) n c, ii o_, wv h_]) rfl ?_; conv => whnf)
    | (refine CallOK.useD (c_Pick_L (xs := [w64 (1 + x30_), y_]) hz hb hn (by assumption) (Nat.le_of_ble_eq_true rfl) (Nat.le_of_ble_eq_true rfl)) [0, 1, 2] rfl rfl rfl ⟨⟨⟨_, rfl, .lit (away_conc (bl_plain _) _).symm (fun _ h_ => by cases h_) (away_ok (bl_plain _) _)⟩⟩, ⟨⟨_, rfl, .lit rfl (fun _ h_ => h_) (fun v hv => okB0_spec (allL_spec rfl v hv))⟩⟩, ⟨⟨_, rfl, .plain rfl (fun _ h_ => by cases h_) (il_plain _)⟩⟩, trivial⟩ (fun v_ mem_ hR => ?_); obtain ⟨y_, o_, h_, ha_, rfl, rfl⟩ := hR; refine ⟨rfl, ii y_, fun _ => rfl, ?_⟩; (conv => whnf); refine mapK_eval (cs' := [.slice (some ⟨0, off, none⟩) n c, ii o_, wv h_]) rfl ?_; conv => whnf)
    | (refine CallOK.useD (c_Next_L (m := 2) hz hb hn (by assumption)) [0, 1] rfl rfl rfl ⟨⟨⟨_, rfl, .lit (away_conc (bl_plain _) _).symm (fun _ h_ => by cases h_) (away_ok (bl_plain _) _)⟩⟩, ⟨⟨_, rfl, .lit rfl (fun _ h_ => h_) (fun v hv => okB0_spec (allL_spec rfl v hv))⟩⟩, trivial⟩ (fun v_ mem_ hR => ?_); obtain ⟨x2_, o_, h_, hx2_, ha_, rfl, rfl⟩ := hR; refine ⟨rfl, ii x2_, fun _ => rfl, ?_⟩; (conv => whnf); refine mapK_eval (cs' := [.slice (some ⟨0, off, none⟩) n c, ii o_, wv h_]) rfl ?_; conv => whnf)
    | (refine CallOK.useD (c_Next_L hz hb hn (by assumption)) [0, 1] rfl rfl rfl ⟨⟨⟨_, rfl, .lit (away_conc (bl_plain _) _).symm (fun _ h_ => by cases h_) (away_ok (bl_plain _) _)⟩⟩, ⟨⟨_, rfl, .lit rfl (fun _ h_ => h_) (fun v hv => okB0_spec (allL_spec rfl v hv))⟩⟩, trivial⟩ (fun v_ mem_ hR => ?_); obtain ⟨x_, o_, h_, hx_, ha_, rfl, rfl⟩ := hR; refine ⟨rfl, ii x_, fun _ => rfl, ?_⟩; (conv => whnf); refine mapK_eval (cs' := [.slice (some ⟨0, off, none⟩) n c, ii o_, wv h_]) rfl ?_; conv => whnf)
    | (show OutK _ _ _ _; exact out_forget [] ⟨_, _, rfl, rfl⟩ rfl (okB2_spec rfl) ⟨⟨⟨_, rfl, .lit (away_conc (bl_plain _) _).symm rfl (away_ok (bl_plain _) _)⟩⟩, trivial⟩ rfl rfl)
    | (refine StoreK.mk rfl ?_; conv => whnf)
    | exact join_same
    | exact (by assumption : (_ : Bool) = (_ : Bool))
    | (refine br_true (by assumption) ?_; conv => whnf)
    | (refine br_false (by assumption) ?_; conv => whnf)
    | (refine br_not ?_; conv => whnf)
    | (refine br_code ?_; conv => whnf)
    | (with_reducible refine br_and ?_; conv => whnf)
    | (with_reducible refine br_or ?_; conv => whnf)
    | (refine br_eq2 ?_; conv => whnf)
    | (refine draw_auto (by decide +kernel) ?_; conv => whnf)
    | (refine draw_asg (by decide +kernel) ?_; conv => whnf)
    | (refine draw_st (by decide +kernel) ?_; conv => whnf)
    | (refine draw_call (by decide +kernel) ?_; conv => whnf)
    | (refine enter_same (loop_n 12 ?_); conv => whnf)
    | (refine next_same ?_; conv => whnf)
    | (refine mapK_row (by assumption) ?_; conv => whnf)
    | (refine mapK_plain (Plain.of rfl) ?_; conv => whnf)
    | (refine mapK_lit ?_; conv => whnf)
    | (refine br_split (fun _ => ?_) (fun _ => ?_) <;> conv => whnf)
    | exact (rfl : (_ : Value) = _)
    | (simp only [*]; exact (rfl : (_ : Value) = _))
    | (simp [*]; done))

set_option maxHeartbeats 1000000 in
theorem c_DrawSum_L {zs : List Int} {off n c : Nat} (hz : n ≤ zs.length) (hb : ∀ z ∈ zs, IsByte z) (hn : n ≤ 4096) : CallOK Try.prog n_spec_DrawSumOfCorners [.slice (some ⟨0, off, none⟩) n c] [(away off (bl zs), none)] (fun v m_ => ∃ a1 a2 a3 a4 b1 b2 b3 b4 x, v = .tuple #[q4 a1 a2 a3 a4, q4 b1 b2 b3 b4, ii x] ∧ m_ = [(away off (bl zs), none)]) := by
  refine callOK_ofF good fn_spec_DrawSumOfCorners ?_
  conv => whnf
  all_goals (repeat' first
    | (refine CallOK.useR (c_From_L hz hb hn) [0] rfl rfl rfl ⟨⟨⟨_, rfl, .lit (away_conc (bl_plain _) _).symm (fun _ h_ => by cases h_) (away_ok (bl_plain _) _)⟩⟩, trivial⟩ (fun v_ mem_ hR => ?_); obtain ⟨h_, rfl, rfl⟩ := hR; have ha_ := SrcAt.zero n; refine ⟨rfl, ?_⟩; (conv => whnf); refine mapK_eval (cs' := [.slice (some ⟨0, off, none⟩) n c, ii 0, wv h_]) rfl ?_; conv => whnf)
    | (have g_ := a1_; (refine CallOK.useD (c_Spoil2_L hz hb hn (by assumption)) [0, 3] rfl rfl rfl ⟨⟨⟨_, rfl, .lit (away_conc (bl_plain _) _).symm (fun _ h_ => by cases h_) (away_ok (bl_plain _) _)⟩⟩, ⟨⟨_, rfl, .lit rfl (fun _ h_ => h_) (fun v hv => okB0_spec (allL_spec rfl v hv))⟩⟩, trivial⟩ (fun v_ mem_ hR => ?_); obtain ⟨b1_, b2_, b3_, b4_, o_, h_, ha_, rfl, rfl⟩ := hR; refine ⟨rfl, q4 b1_ b2_ b3_ b4_, fun _ => rfl, ?_⟩; (conv => whnf); refine mapK_eval (cs' := [.slice (some ⟨0, off, none⟩) n c, ii o_, wv h_]) rfl ?_; conv => whnf))
    | (refine CallOK.useD (c_Spoil2_L hz hb hn (by assumption)) [0, 3] rfl rfl rfl ⟨⟨⟨_, rfl, .lit (away_conc (bl_plain _) _).symm (fun _ h_ => by cases h_) (away_ok (bl_plain _) _)⟩⟩, ⟨⟨_, rfl, .lit rfl (fun _ h_ => h_) (fun v hv => okB0_spec (allL_spec rfl v hv))⟩⟩, trivial⟩ (fun v_ mem_ hR => ?_); obtain ⟨a1_, a2_, a3_, a4_, o_, h_, ha_, rfl, rfl⟩ := hR; refine ⟨rfl, q4 a1_ a2_ a3_ a4_, fun _ => rfl, ?_⟩; (conv => whnf); refine mapK_eval (cs' := [.slice (some ⟨0, off, none⟩) n c, ii o_, wv h_]) rfl ?_; conv => whnf)
    | (refine CallOK.useD (c_Near_L hz hb hn (by assumption)) [0, 3] rfl rfl rfl ⟨⟨⟨_, rfl, .lit (away_conc (bl_plain _) _).symm (fun _ h_ => by cases h_) (away_ok (bl_plain _) _)⟩⟩, ⟨⟨_, rfl, .lit rfl (fun _ h_ => h_) (fun v hv => okB0_spec (allL_spec rfl v hv))⟩⟩, trivial⟩ (fun v_ mem_ hR => ?_); obtain ⟨y_, o_, h_, ha_, rfl, rfl⟩ := hR; refine ⟨rfl, ii y_, fun _ => rfl, ?_⟩; (conv => whnf); refine mapK_eval (cs' := [.slice (some ⟨0, off, none⟩) n c, ii o_, wv h_]) rfl ?_; conv => whnf)
    | (refine CallOK.useD (c_Pick_L (xs := [-1, -1, 0, 1, 2, -2, y_]) hz hb hn (by assumption) (Nat.le_of_ble_eq_true rfl) (Nat.le_of_ble_eq_true rfl)) [0, 3, 4] rfl rfl rfl ⟨⟨⟨_, rfl, .lit (away_conc (bl_plain _) _).symm (fun _ h_ => by cases h_) (away_ok (bl_plain _) _)⟩⟩, ⟨⟨_, rfl, .lit rfl (fun _ h_ => h_) (fun v hv => okB0_spec (allL_spec rfl v hv))⟩⟩, ⟨⟨_, rfl, .plain rfl (fun _ h_ => by cases h_) (il_plain _)⟩⟩, trivial⟩ (fun v_ mem_ hR => ?_); obtain ⟨y_, o_, h_, ha_, rfl, rfl⟩ := hR; refine ⟨rfl, ii y_, fun _ => rfl, ?_⟩; (conv => whnf); refine mapK_eval (cs' := [.slice (some ⟨0, off, none⟩) n c, ii o_, wv h_]) rfl ?_; conv => whnf)
    | (show OutK _ _ _ _; exact out_forget [] ⟨_, _, _, _, _, _, _, _, _, rfl, rfl⟩ rfl (okB2_spec rfl) ⟨⟨⟨_, rfl, .lit (away_conc (bl_plain _) _).symm rfl (away_ok (bl_plain _) _)⟩⟩, trivial⟩ rfl rfl)
    | (refine StoreK.mk rfl ?_; conv => whnf)
    | exact join_same
    | exact (by assumption : (_ : Bool) = (_ : Bool))
    | (refine br_true (by assumption) ?_; conv => whnf)
    | (refine br_false (by assumption) ?_; conv => whnf)
    | (refine br_not ?_; conv => whnf)
    | (refine br_code ?_; conv => whnf)
    | (with_reducible refine br_and ?_; conv => whnf)
    | (with_reducible refine br_or ?_; conv => whnf)
    | (refine br_eq2 ?_; conv => whnf)
    | (refine draw_auto (by decide +kernel) ?_; conv => whnf)
    | (refine draw_asg (by decide +kernel) ?_; conv => whnf)
    | (refine draw_st (by decide +kernel) ?_; conv => whnf)
    | (refine draw_call (by decide +kernel) ?_; conv => whnf)
    | (refine enter_same (loop_n 12 ?_); conv => whnf)
    | (refine next_same ?_; conv => whnf)
    | (refine mapK_row (by assumption) ?_; conv => whnf)
    | (refine mapK_plain (Plain.of rfl) ?_; conv => whnf)
    | (refine mapK_lit ?_; conv => whnf)
    | (refine br_split (fun _ => ?_) (fun _ => ?_) <;> conv => whnf)
    | exact (rfl : (_ : Value) = _)
    | (simp only [*]; exact (rfl : (_ : Value) = _))
    | (simp [*]; done))

set_option maxHeartbeats 1000000 in
theorem c_Near_N  {o h m : Int}  (ha : SrcAt 0 o) : CallOK Try.prog n_spec_l01Near [.pointer (some ⟨0, 0, none⟩), ii m] [([.slice none 0 0, ii o, wv h], some t_spec_l01Source)] (fun v m_ => ∃ y o2 h2, SrcAt 0 o2 ∧ v = ii y ∧ m_ = [([.slice none 0 0, ii o2, wv h2], some t_spec_l01Source)]) := by
  refine callOK_ofF good fn_spec_l01Near ?_
  conv => whnf
  all_goals (repeat' first
    | (refine CallOK.useD (c_Next_N (m := 14) (by assumption)) [0] rfl rfl rfl ⟨⟨⟨_, rfl, .lit rfl (fun _ h_ => h_) (fun v hv => okB0_spec (allL_spec rfl v hv))⟩⟩, trivial⟩ (fun v_ mem_ hR => ?_); obtain ⟨x14_, o_, h_, hx14_, ha_, rfl, rfl⟩ := hR; refine ⟨rfl, ii x14_, fun _ => rfl, ?_⟩; (conv => whnf); refine mapK_eval (cs' := [.slice none 0 0, ii o_, wv h_]) rfl ?_; conv => whnf)
    | (refine CallOK.useD (c_Next_N (by assumption)) [0] rfl rfl rfl ⟨⟨⟨_, rfl, .lit rfl (fun _ h_ => h_) (fun v hv => okB0_spec (allL_spec rfl v hv))⟩⟩, trivial⟩ (fun v_ mem_ hR => ?_); obtain ⟨x_, o_, h_, hx_, ha_, rfl, rfl⟩ := hR; refine ⟨rfl, ii x_, fun _ => rfl, ?_⟩; (conv => whnf); refine mapK_eval (cs' := [.slice none 0 0, ii o_, wv h_]) rfl ?_; conv => whnf)
    | (refine CallOK.useD (c_Pick_N (xs := [-1, w64 (m + 1), 1099511627776, -4611686018427387904]) (by assumption) (Nat.le_of_ble_eq_true rfl) (Nat.le_of_ble_eq_true rfl)) [0, 1] rfl rfl rfl ⟨⟨⟨_, rfl, .lit rfl (fun _ h_ => h_) (fun v hv => okB0_spec (allL_spec rfl v hv))⟩⟩, ⟨⟨_, rfl, .plain rfl (fun _ h_ => by cases h_) (il_plain _)⟩⟩, trivial⟩ (fun v_ mem_ hR => ?_); obtain ⟨y_, o_, h_, ha_, rfl, rfl⟩ := hR; refine ⟨rfl, ii y_, fun _ => rfl, ?_⟩; (conv => whnf); refine mapK_eval (cs' := [.slice none 0 0, ii o_, wv h_]) rfl ?_; conv => whnf)
    | (show OutK _ _ _ _; (exact out_forget [] ⟨_, _, _, ha_, rfl, rfl⟩ rfl (okB2_spec rfl) ⟨⟨⟨_, rfl, .lit rfl rfl (fun v hv => okB0_spec (allL_spec rfl v hv))⟩⟩, trivial⟩ rfl rfl))
    | (refine StoreK.mk rfl ?_; conv => whnf)
    | exact join_same
    | exact (by assumption : (_ : Bool) = (_ : Bool))
    | (refine br_true (by assumption) ?_; conv => whnf)
    | (refine br_false (by assumption) ?_; conv => whnf)
    | (refine br_not ?_; conv => whnf)
    | (refine br_code ?_; conv => whnf)
    | (with_reducible refine br_and ?_; conv => whnf)
    | (with_reducible refine br_or ?_; conv => whnf)
    | (refine br_eq2 ?_; conv => whnf)
    | (refine draw_auto (by decide +kernel) ?_; conv => whnf)
    | (refine draw_asg (by decide +kernel) ?_; conv => whnf)
    | (refine draw_st (by decide +kernel) ?_; conv => whnf)
    | (refine draw_call (by decide +kernel) ?_; conv => whnf)
    | (refine enter_same (loop_n 12 ?_); conv => whnf)
    | (refine next_same ?_; conv => whnf)
    | (refine mapK_row (by assumption) ?_; conv => whnf)
    | (refine mapK_plain (Plain.of rfl) ?_; conv => whnf)
    | (refine mapK_lit ?_; conv => whnf)
    | (refine br_split (fun _ => ?_) (fun _ => ?_) <;> conv => whnf)
    | exact (rfl : (_ : Value) = _)
    | (simp only [*]; exact (rfl : (_ : Value) = _))
    | (simp [*]; done))

theorem c_DrawExp_N   : CallOK Try.prog n_spec_DrawExpansionOfCorner [.slice none 0 0] [] (fun v m_ => ∃ a1 a2 a3 a4, v = q4 a1 a2 a3 a4 ∧ m_ = []) := by
  refine callOK_ofF good fn_spec_DrawExpansionOfCorner ?_
  conv => whnf
  all_goals (repeat' first
    | (refine CallOK.useR (c_From_N) [] rfl rfl rfl trivial (fun v_ mem_ hR => ?_); obtain ⟨h_, rfl, rfl⟩ := hR; have ha_ := SrcAt.zero 0; refine ⟨rfl, ?_⟩; (conv => whnf); refine mapK_eval (cs' := [.slice none 0 0, ii 0, wv h_]) rfl ?_; conv => whnf)
    | (refine CallOK.useD (c_Spoil2_N (by assumption)) [1] rfl rfl rfl ⟨⟨⟨_, rfl, .lit rfl (fun _ h_ => h_) (fun v hv => okB0_spec (allL_spec rfl v hv))⟩⟩, trivial⟩ (fun v_ mem_ hR => ?_); obtain ⟨a1_, a2_, a3_, a4_, o_, h_, ha_, rfl, rfl⟩ := hR; refine ⟨rfl, q4 a1_ a2_ a3_ a4_, fun _ => rfl, ?_⟩; (conv => whnf); refine mapK_eval (cs' := [.slice none 0 0, ii o_, wv h_]) rfl ?_; conv => whnf)
    | (show OutK _ _ _ _; exact out_forget [] ⟨_, _, _, _, rfl, rfl⟩ rfl (okB2_spec rfl) trivial rfl rfl)
    | (refine StoreK.mk rfl ?_; conv => whnf)
    | exact join_same
    | exact (by assumption : (_ : Bool) = (_ : Bool))
    | (refine br_true (by assumption) ?_; conv => whnf)
    | (refine br_false (by assumption) ?_; conv => whnf)
    | (refine br_not ?_; conv => whnf)
    | (refine br_code ?_; conv => whnf)
    | (with_reducible refine br_and ?_; conv => whnf)
    | (with_reducible refine br_or ?_; conv => whnf)
    | (refine br_eq2 ?_; conv => whnf)
    | (refine draw_auto (by decide +kernel) ?_; conv => whnf)
    | (refine draw_asg (by decide +kernel) ?_; conv => whnf)
    | (refine draw_st (by decide +kernel) ?_; conv => whnf)
    | (refine draw_call (by decide +kernel) ?_; conv => whnf)
    | (refine enter_same (loop_n 12 ?_); conv => whnf)
    | (refine next_same ?_; conv => whnf)
    | (refine mapK_row (by assumption) ?_; conv => whnf)
    | (refine mapK_plain (Plain.of rfl) ?_; conv => whnf)
    | (refine mapK_lit ?_; conv => whnf)
    | (refine br_split (fun _ => ?_) (fun _ => ?_) <;> conv => whnf)
    | exact (rfl : (_ : Value) = _)
    | (simp only [*]; exact (rfl : (_ : Value) = _))
    | (simp [*]; done))

set_option maxHeartbeats 1000000 in
theorem c_DrawTan_N   : CallOK Try.prog n_spec_DrawCornerOfTangent [.slice none 0 0] [] (fun v m_ => ∃ x y, v = t2 (ii x) (ii y) ∧ m_ = []) := by
  refine callOK_ofF good fn_spec_DrawCornerOfTangent ?_
  conv => whnf
  all_goals (repeat' first
    | (refine CallOK.useR (c_From_N) [] rfl rfl rfl trivial (fun v_ mem_ hR => ?_); obtain ⟨h_, rfl, rfl⟩ := hR; have ha_ := SrcAt.zero 0; refine ⟨rfl, ?_⟩; (conv => whnf); refine mapK_eval (cs' := [.slice none 0 0, ii 0, wv h_]) rfl ?_; conv => whnf)
    | (refine CallOK.useD (c_Next_N (m := 30) (by assumption)) [0] rfl rfl rfl ⟨⟨⟨_, rfl, .lit rfl (fun _ h_ => h_) (fun v hv => okB0_spec (allL_spec rfl v hv))⟩⟩, trivial⟩ (fun v_ mem_ hR => ?_); obtain ⟨x30_, o_, h_, hx30_, ha_, rfl, rfl⟩ := hR; refine ⟨rfl, ii x30_, fun _ => rfl, ?_⟩; (conv => whnf); refine mapK_eval (cs' := [.slice none 0 0, ii o_, wv h_]) rfl ?_; conv => whnf)
    | (refine CallOK.useD (c_Near_N (by assumption)) [0] rfl rfl rfl ⟨⟨⟨_, rfl, .lit rfl (fun _ h_ => h_) (fun v hv => okB0_spec (allL_spec rfl v hv))⟩⟩, trivial⟩ (fun v_ mem_ hR => ?_); obtain ⟨y_, o_, h_, ha_, rfl, rfl⟩ := hR; refine ⟨rfl, ii y_, fun _ => rfl, ?_⟩; (conv => whnf); refine mapK_eval (cs' := [.slice none 0 0, ii o_, wv h_]) rfl ?_; conv => whnf)
    | (refine CallOK.useD (c_Pick_N (xs := [w64 (1 + x30_), y_]) (by assumption) (Nat.le_of_ble_eq_true rfl) (Nat.le_of_ble_eq_true rfl)) [0, 1] rfl rfl rfl ⟨⟨⟨_, rfl, .lit rfl (fun _ h_ => h_) (fun v hv => okB0_spec (allL_spec rfl v hv))⟩⟩, ⟨⟨_, rfl, .plain rfl (fun _ h_ => by cases h_) (il_plain _)⟩⟩, trivial⟩ (fun v_ mem_ hR => ?_); obtain ⟨y_, o_, h_, ha_, rfl, rfl⟩ := hR; refine ⟨rfl, ii y_, fun _ => rfl, ?_⟩; (conv => whnf); refine mapK_eval (cs' := [.slice none 0 0, ii o_, wv h_]) rfl ?_; conv => whnf)
    | (refine CallOK.useD (c_Next_N (m := 2) (by assumption)) [0] rfl rfl rfl ⟨⟨⟨_, rfl, .lit rfl (fun _ h_ => h_) (fun v hv => okB0_spec (allL_spec rfl v hv))⟩⟩, trivial⟩ (fun v_ mem_ hR => ?_); obtain ⟨x2_, o_, h_, hx2_, ha_, rfl, rfl⟩ := hR; refine ⟨rfl, ii x2_, fun _ => rfl, ?_⟩; (conv => whnf); refine mapK_eval (cs' := [.slice none 0 0, ii o_, wv h_]) rfl ?_; conv => whnf)
    | (refine CallOK.useD (c_Next_N (by assumption)) [0] rfl rfl rfl ⟨⟨⟨_, rfl, .lit rfl (fun _ h_ => h_) (fun v hv => okB0_spec (allL_spec rfl v hv))⟩⟩, trivial⟩ (fun v_ mem_ hR => ?_); obtain ⟨x_, o_, h_, hx_, ha_, rfl, rfl⟩ := hR; refine ⟨rfl, ii x_, fun _ => rfl, ?_⟩; (conv => whnf); refine mapK_eval (cs' := [.slice none 0 0, ii o_, wv h_]) rfl ?_; conv => whnf)
    | (show OutK _ _ _ _; exact out_forget [] ⟨_, _, rfl, rfl⟩ rfl (okB2_spec rfl) trivial rfl rfl)
    | (refine StoreK.mk rfl ?_; conv => whnf)
    | exact join_same
    | exact (by assumption : (_ : Bool) = (_ : Bool))
    | (refine br_true (by assumption) ?_; conv => whnf)
    | (refine br_false (by assumption) ?_; conv => whnf)
    | (refine br_not ?_; conv => whnf)
    | (refine br_code ?_; conv => whnf)
    | (with_reducible refine br_and ?_; conv => whnf)
    | (with_reducible refine br_or ?_; conv => whnf)
    | (refine br_eq2 ?_; conv => whnf)
    | (refine draw_auto (by decide +kernel) ?_; conv => whnf)
    | (refine draw_asg (by decide +kernel) ?_; conv => whnf)
    | (refine draw_st (by decide +kernel) ?_; conv => whnf)
    | (refine draw_call (by decide +kernel) ?_; conv => whnf)
    | (refine enter_same (loop_n 12 ?_); conv => whnf)
    | (refine next_same ?_; conv => whnf)
    | (refine mapK_row (by assumption) ?_; conv => whnf)
    | (refine mapK_plain (Plain.of rfl) ?_; conv => whnf)
    | (refine mapK_lit ?_; conv => whnf)
    | (refine br_split (fun _ => ?_) (fun _ => ?_) <;> conv => whnf)
    | exact (rfl : (_ : Value) = _)
    | (simp only [*]; exact (rfl : (_ : Value) = _))
    | (simp [*]; done))

set_option maxHeartbeats 1000000 in
theorem c_DrawSum_N   : CallOK Try.prog n_spec_DrawSumOfCorners [.slice none 0 0] [] (fun v m_ => ∃ a1 a2 a3 a4 b1 b2 b3 b4 x, v = .tuple #[q4 a1 a2 a3 a4, q4 b1 b2 b3 b4, ii x] ∧ m_ = []) := by
  refine callOK_ofF good fn_spec_DrawSumOfCorners ?_
  conv => whnf
  all_goals (repeat' first
    | (refine CallOK.useR (c_From_N) [] rfl rfl rfl trivial (fun v_ mem_ hR => ?_); obtain ⟨h_, rfl, rfl⟩ := hR; have ha_ := SrcAt.zero 0; refine ⟨rfl, ?_⟩; (conv => whnf); refine mapK_eval (cs' := [.slice none 0 0, ii 0, wv h_]) rfl ?_; conv => whnf)
    | (have g_ := a1_; (refine CallOK.useD (c_Spoil2_N (by assumption)) [2] rfl rfl rfl ⟨⟨⟨_, rfl, .lit rfl (fun _ h_ => h_) (fun v hv => okB0_spec (allL_spec rfl v hv))⟩⟩, trivial⟩ (fun v_ mem_ hR => ?_); obtain ⟨b1_, b2_, b3_, b4_, o_, h_, ha_, rfl, rfl⟩ := hR; refine ⟨rfl, q4 b1_ b2_ b3_ b4_, fun _ => rfl, ?_⟩; (conv => whnf); refine mapK_eval (cs' := [.slice none 0 0, ii o_, wv h_]) rfl ?_; conv => whnf))
    | (refine CallOK.useD (c_Spoil2_N (by assumption)) [2] rfl rfl rfl ⟨⟨⟨_, rfl, .lit rfl (fun _ h_ => h_) (fun v hv => okB0_spec (allL_spec rfl v hv))⟩⟩, trivial⟩ (fun v_ mem_ hR => ?_); obtain ⟨a1_, a2_, a3_, a4_, o_, h_, ha_, rfl, rfl⟩ := hR; refine ⟨rfl, q4 a1_ a2_ a3_ a4_, fun _ => rfl, ?_⟩; (conv => whnf); refine mapK_eval (cs' := [.slice none 0 0, ii o_, wv h_]) rfl ?_; conv => whnf)
    | (refine CallOK.useD (c_Near_N (by assumption)) [2] rfl rfl rfl ⟨⟨⟨_, rfl, .lit rfl (fun _ h_ => h_) (fun v hv => okB0_spec (allL_spec rfl v hv))⟩⟩, trivial⟩ (fun v_ mem_ hR => ?_); obtain ⟨y_, o_, h_, ha_, rfl, rfl⟩ := hR; refine ⟨rfl, ii y_, fun _ => rfl, ?_⟩; (conv => whnf); refine mapK_eval (cs' := [.slice none 0 0, ii o_, wv h_]) rfl ?_; conv => whnf)
    | (refine CallOK.useD (c_Pick_N (xs := [-1, -1, 0, 1, 2, -2, y_]) (by assumption) (Nat.le_of_ble_eq_true rfl) (Nat.le_of_ble_eq_true rfl)) [2, 3] rfl rfl rfl ⟨⟨⟨_, rfl, .lit rfl (fun _ h_ => h_) (fun v hv => okB0_spec (allL_spec rfl v hv))⟩⟩, ⟨⟨_, rfl, .plain rfl (fun _ h_ => by cases h_) (il_plain _)⟩⟩, trivial⟩ (fun v_ mem_ hR => ?_); obtain ⟨y_, o_, h_, ha_, rfl, rfl⟩ := hR; refine ⟨rfl, ii y_, fun _ => rfl, ?_⟩; (conv => whnf); refine mapK_eval (cs' := [.slice none 0 0, ii o_, wv h_]) rfl ?_; conv => whnf)
    | (show OutK _ _ _ _; exact out_forget [] ⟨_, _, _, _, _, _, _, _, _, rfl, rfl⟩ rfl (okB2_spec rfl) trivial rfl rfl)
    | (refine StoreK.mk rfl ?_; conv => whnf)
    | exact join_same
    | exact (by assumption : (_ : Bool) = (_ : Bool))
    | (refine br_true (by assumption) ?_; conv => whnf)
    | (refine br_false (by assumption) ?_; conv => whnf)
    | (refine br_not ?_; conv => whnf)
    | (refine br_code ?_; conv => whnf)
    | (with_reducible refine br_and ?_; conv => whnf)
    | (with_reducible refine br_or ?_; conv => whnf)
    | (refine br_eq2 ?_; conv => whnf)
    | (refine draw_auto (by decide +kernel) ?_; conv => whnf)
    | (refine draw_asg (by decide +kernel) ?_; conv => whnf)
    | (refine draw_st (by decide +kernel) ?_; conv => whnf)
    | (refine draw_call (by decide +kernel) ?_; conv => whnf)
    | (refine enter_same (loop_n 12 ?_); conv => whnf)
    | (refine next_same ?_; conv => whnf)
    | (refine mapK_row (by assumption) ?_; conv => whnf)
    | (refine mapK_plain (Plain.of rfl) ?_; conv => whnf)
    | (refine mapK_lit ?_; conv => whnf)
    | (refine br_split (fun _ => ?_) (fun _ => ?_) <;> conv => whnf)
    | exact (rfl : (_ : Value) = _)
    | (simp only [*]; exact (rfl : (_ : Value) = _))
    | (simp [*]; done))

end Go.Proofs.Ytlkbfpklhncfbaa
end

section
/-
  Contracts of functions of the program (printed by a program of this work; Lean checks each).
  Conditions: as each contract states.
-/
namespace Go.Proofs.Ytlkbfpklhncfbaa
open Go.Ev Go.RowKit
set_option maxRecDepth 100000
set_option linter.unusedVariables false
set_option linter.unusedSimpArgs false

attribute [local irreducible] isCornF bigF detF ofGo isCoordF sineF cosF

theorem c_impl_CornerOfExpansion_1 {c : Int}  : Pure Try.prog n_impl_CornerOfExpansion_1 [ii c] (bb (!isCoordF c)) := by
  refine pure_of good fn_impl_CornerOfExpansion_1 rfl rfl ?_
  conv => whnf
  all_goals (repeat' first
    | (refine StoreK.mk rfl ?_; conv => whnf)
    | exact join_same
    | exact (by assumption : (_ : Bool) = (_ : Bool))
    | (refine br_true (by assumption) ?_; conv => whnf)
    | (refine br_false (by assumption) ?_; conv => whnf)
    | (refine br_not ?_; conv => whnf)
    | (refine br_code ?_; conv => whnf)
    | (with_reducible refine br_and ?_; conv => whnf)
    | (with_reducible refine br_or ?_; conv => whnf)
    | (refine br_eq2 ?_; conv => whnf)
    | (refine c_impl_isCoord.call ?_; conv => whnf)
    | (refine c_impl_isCoord.quiet ?_; conv => whnf)
    | (refine draw_auto (by decide +kernel) ?_; conv => whnf)
    | (refine draw_asg (by decide +kernel) ?_; conv => whnf)
    | (refine draw_st (by decide +kernel) ?_; conv => whnf)
    | (refine draw_call (by decide +kernel) ?_; conv => whnf)
    | (refine enter_same (loop_n 12 ?_); conv => whnf)
    | (refine next_same ?_; conv => whnf)
    | (refine mapK_row (by assumption) ?_; conv => whnf)
    | (refine mapK_plain (Plain.of rfl) ?_; conv => whnf)
    | (refine mapK_lit ?_; conv => whnf)
    | (refine br_split (fun _ => ?_) (fun _ => ?_) <;> conv => whnf)
    | exact (rfl : (_ : Value) = _)
    | (simp only [*]; exact (rfl : (_ : Value) = _))
    | (simp [*]; done))

theorem c_index_coord {xs : List Int} {sp : List Value} {n c : Nat} (h1 : Row (il xs) sp n c 1) (hn : n ≤ 1048576) : CallOK Try.prog n_slices_IndexFunc_int64 [.slice (some ⟨0, 0, none⟩) n c, fnv n_impl_CornerOfExpansion_1] [(il xs ++ sp, none)] (fun v m_ => v = ii (idxI (fun c => !isCoordF c) xs 0) ∧ m_ = [(il xs ++ sp, none)]) := by
  obtain rfl := row_il h1; refine callOK_ofF good fn_slices_IndexFunc_int64 ?_
  conv => whnf
  all_goals (repeat' first
    | (refine enter_forget [] (loop_rec (fun (s : Int) => match s with | i => [.slice (some ⟨0, 0, none⟩) xs.length c, fnv n_impl_CornerOfExpansion_1, wild, wild, wild, wild, .slice (some ⟨0, 0, none⟩) xs.length c, ii (xs.length : Int), ii i, wild, wild, wild, wild, wild, wild, wild, wild, wild, wild]) (fun (s : Int) => match s with | i => [(il xs ++ sp, none)]) (fun (s : Int) => match s with | i => ((xs.length : Int) - i).toNat) (fun (s : Int) => match s with | i => FirI (fun c => !isCoordF c) xs i) (0) FirI.start ?_) (tmR_rfl rfl rfl) ⟨⟨⟨_, rfl, .plain rfl rfl (Row.all h1)⟩⟩, trivial⟩ rfl rfl; rintro fuel_ i hI IH; replace hI : FirI (fun c => !isCoordF c) xs i := hI; conv => whnf)
    | exact next_forget [] (IH (w64 (i + 1)) (by exact hI.next (of_decide_eq_true (show decide (i < (xs.length : Int)) = true by assumption)) hn (by have q_ : isCoordF (xs.getD i.toNat 0) = true := (by assumption); rw [q_]; rfl)) (by exact hI.mu (of_decide_eq_true (show decide (i < (xs.length : Int)) = true by assumption)) hn)) (tmR_rfl rfl rfl) ⟨⟨⟨_, rfl, .plain rfl rfl (Row.all h1)⟩⟩, trivial⟩ rfl rfl
    | (refine br_in hI.lo (of_decide_eq_true (show decide (i < (xs.length : Int)) = true by assumption)) ?_; conv => whnf)
    | (refine force_eq (take_il (xs := xs) (i := (i).toNat) ?_ ?_) ?_; (focus (simp only [Nat.mul_one, Nat.zero_add]; done)); (focus (have := hI.lo; have := (of_decide_eq_true (show decide (i < (xs.length : Int)) = true by assumption)); omega; done)); conv => whnf)
    | (exact out_forget [] ⟨congrArg (Value.int IntKind.i64) (hI.hit (of_decide_eq_true (show decide (i < (xs.length : Int)) = true by assumption)) (by have q_ : isCoordF (xs.getD i.toNat 0) = false := (by assumption); rw [q_]; rfl)).symm, rfl⟩ rfl (okB2_spec rfl) ⟨⟨⟨_, rfl, .plain rfl rfl (Row.all h1)⟩⟩, trivial⟩ rfl rfl)
    | (exact out_forget [] ⟨congrArg (Value.int IntKind.i64) (hI.fin (of_decide_eq_false (by assumption))).symm, rfl⟩ rfl (okB2_spec rfl) ⟨⟨⟨_, rfl, .plain rfl rfl (Row.all h1)⟩⟩, trivial⟩ rfl rfl)
    | (refine StoreK.mk rfl ?_; conv => whnf)
    | exact join_same
    | exact (by assumption : (_ : Bool) = (_ : Bool))
    | (refine br_true (by assumption) ?_; conv => whnf)
    | (refine br_false (by assumption) ?_; conv => whnf)
    | (refine br_not ?_; conv => whnf)
    | (refine br_code ?_; conv => whnf)
    | (with_reducible refine br_and ?_; conv => whnf)
    | (with_reducible refine br_or ?_; conv => whnf)
    | (refine br_eq2 ?_; conv => whnf)
    | (refine c_impl_CornerOfExpansion_1.call ?_; conv => whnf)
    | (refine c_impl_CornerOfExpansion_1.quiet ?_; conv => whnf)
    | (refine draw_auto (by decide +kernel) ?_; conv => whnf)
    | (refine draw_asg (by decide +kernel) ?_; conv => whnf)
    | (refine draw_st (by decide +kernel) ?_; conv => whnf)
    | (refine draw_call (by decide +kernel) ?_; conv => whnf)
    | (refine enter_same (loop_n 12 ?_); conv => whnf)
    | (refine next_same ?_; conv => whnf)
    | (refine mapK_row (by assumption) ?_; conv => whnf)
    | (refine mapK_plain (Plain.of rfl) ?_; conv => whnf)
    | (refine mapK_lit ?_; conv => whnf)
    | (refine br_split (fun _ => ?_) (fun _ => ?_) <;> conv => whnf)
    | exact (rfl : (_ : Value) = _)
    | (simp only [*]; exact (rfl : (_ : Value) = _))
    | (simp [*]; done))

theorem c_contains_coord {xs : List Int} {sp : List Value} {n c : Nat} (h1 : Row (il xs) sp n c 1) (hn : n ≤ 1048576) : CallOK Try.prog n_slices_ContainsFunc_int64 [.slice (some ⟨0, 0, none⟩) n c, fnv n_impl_CornerOfExpansion_1] [(il xs ++ sp, none)] (fun v m_ => v = bb (xs.any (fun c => !isCoordF c)) ∧ m_ = [(il xs ++ sp, none)]) := by
  have e_ := idxI_ge (fun c => !isCoordF c) xs 0 (by omega); refine callOK_ofF good fn_slices_ContainsFunc_int64 ?_
  conv => whnf
  all_goals (repeat' first
    | (exact out_forget [] ⟨congrArg Value.bool e_, rfl⟩ rfl (okB2_spec rfl) ⟨⟨⟨_, rfl, .plain rfl rfl (Row.all h1)⟩⟩, trivial⟩ rfl rfl)
    | (refine StoreK.mk rfl ?_; conv => whnf)
    | exact join_same
    | exact (by assumption : (_ : Bool) = (_ : Bool))
    | (refine br_true (by assumption) ?_; conv => whnf)
    | (refine br_false (by assumption) ?_; conv => whnf)
    | (refine br_not ?_; conv => whnf)
    | (refine br_code ?_; conv => whnf)
    | (with_reducible refine br_and ?_; conv => whnf)
    | (with_reducible refine br_or ?_; conv => whnf)
    | (refine br_eq2 ?_; conv => whnf)
    | (refine CallOK.useR (c_index_coord (by first | assumption | exact Row.lit rfl rfl | omega) (by first | assumption | exact Row.lit rfl rfl | omega)) [_] rfl rfl rfl ⟨⟨⟨_, rfl, .plain rfl (fun _ h_ => by first | exact h_ | cases h_) (by first | exact Plain.of rfl | exact Row.all (by assumption))⟩⟩, trivial⟩ (fun v_ mem_ hR => ?_); obtain ⟨rfl, rfl⟩ := hR; refine ⟨rfl, ?_⟩; conv => whnf)
    | (refine draw_auto (by decide +kernel) ?_; conv => whnf)
    | (refine draw_asg (by decide +kernel) ?_; conv => whnf)
    | (refine draw_st (by decide +kernel) ?_; conv => whnf)
    | (refine draw_call (by decide +kernel) ?_; conv => whnf)
    | (refine enter_same (loop_n 12 ?_); conv => whnf)
    | (refine next_same ?_; conv => whnf)
    | (refine mapK_row (by assumption) ?_; conv => whnf)
    | (refine mapK_plain (Plain.of rfl) ?_; conv => whnf)
    | (refine mapK_lit ?_; conv => whnf)
    | (refine br_split (fun _ => ?_) (fun _ => ?_) <;> conv => whnf)
    | exact (rfl : (_ : Value) = _)
    | (simp only [*]; exact (rfl : (_ : Value) = _))
    | (simp [*]; done))

set_option maxHeartbeats 1000000 in
theorem c_impl_CornerOfExpansion_ok {xs : List Int} {sp : List Value} {n c : Nat} {p0 q0 : Int} (h1 : Row (il xs) sp n c 1) (hn : n ≤ 1048576) (hk : okLst xs = true) (hg : ofGo xs.reverse 1 0 = some (p0, q0)) (hp : ¬ p0 = 0) : CallOK Try.prog n_impl_CornerOfExpansion [.slice (some ⟨0, 0, none⟩) n c] [(il xs ++ sp, none)] (fun v m_ => v = t2 (q4 1 0 q0 p0) (ii 0) ∧ m_ = [(il xs ++ sp, none)]) := by
  obtain rfl := row_il h1; have hk_ := okLst_iff.1 hk; have ha_ : xs.any (fun c => !isCoordF c) = false := (by rw [any_all, hk_.2.2]; rfl); refine callOK_ofF good fn_impl_CornerOfExpansion ?_
  conv => whnf
  all_goals (repeat' first
    | (refine CallOK.useR (c_contains_coord h1 hn) [_] rfl rfl rfl ⟨⟨⟨_, rfl, .plain rfl (fun _ h_ => by first | exact h_ | cases h_) (Row.all h1)⟩⟩, trivial⟩ (fun v_ mem_ hR => ?_); obtain ⟨rfl, rfl⟩ := hR; refine ⟨rfl, ?_⟩; conv => whnf)
    | (refine br_false (b := decide ((xs.length : Int).tmod 2 = 0)) (decide_eq_false (by rw [tmod2]; omega)) ?_; conv => whnf)
    | (refine br_false (b := decide ((xs.length : Int) > 60)) (decide_eq_false (by omega)) ?_; conv => whnf)
    | (refine br_false (b := List.any _ _) ha_ ?_; conv => whnf)
    | (refine CallR.call1 (c_ofList_ok h1 hn hg hp) rfl (plain_all (Row.all h1)) ⟨_, rfl⟩ ?_; conv => whnf)
    | (exact out_forget [] ⟨rfl, rfl⟩ rfl (okB2_spec rfl) ⟨⟨⟨_, rfl, .plain rfl rfl (Row.all h1)⟩⟩, trivial⟩ rfl rfl)
    | (refine StoreK.mk rfl ?_; conv => whnf)
    | exact join_same
    | exact (by assumption : (_ : Bool) = (_ : Bool))
    | (refine br_true (by assumption) ?_; conv => whnf)
    | (refine br_false (by assumption) ?_; conv => whnf)
    | (refine br_not ?_; conv => whnf)
    | (refine br_code ?_; conv => whnf)
    | (with_reducible refine br_and ?_; conv => whnf)
    | (with_reducible refine br_or ?_; conv => whnf)
    | (refine br_eq2 ?_; conv => whnf)
    | (refine draw_auto (by decide +kernel) ?_; conv => whnf)
    | (refine draw_asg (by decide +kernel) ?_; conv => whnf)
    | (refine draw_st (by decide +kernel) ?_; conv => whnf)
    | (refine draw_call (by decide +kernel) ?_; conv => whnf)
    | (refine enter_same (loop_n 12 ?_); conv => whnf)
    | (refine next_same ?_; conv => whnf)
    | (refine mapK_row (by assumption) ?_; conv => whnf)
    | (refine mapK_plain (Plain.of rfl) ?_; conv => whnf)
    | (refine mapK_lit ?_; conv => whnf)
    | (refine br_split (fun _ => ?_) (fun _ => ?_) <;> conv => whnf)
    | exact (rfl : (_ : Value) = _)
    | (simp only [*]; exact (rfl : (_ : Value) = _))
    | (simp [*]; done))

set_option maxHeartbeats 1000000 in
theorem c_spec_CornerOfExpansion_ok {xs : List Int} {sp : List Value} {n c : Nat} {p0 q0 : Int} (h1 : Row (il xs) sp n c 1) (hn : n ≤ 1048576) (hk : okLst xs = true) (hg : ofGo xs.reverse 1 0 = some (p0, q0)) (hp : ¬ p0 = 0) : CallOK Try.prog n_spec_CornerOfExpansion [.slice (some ⟨0, 0, none⟩) n c] [(il xs ++ sp, none)] (fun v m_ => v = t2 (q4 1 0 q0 p0) (ii 0) ∧ m_ = [(il xs ++ sp, none)]) := by
  obtain rfl := row_il h1; have hk_ := okLst_iff.1 hk; have ha_ : xs.any (fun c => !isCoordF c) = false := (by rw [any_all, hk_.2.2]; rfl); refine callOK_ofF good fn_spec_CornerOfExpansion ?_
  conv => whnf
  all_goals (repeat' first
    | (refine enter_forget [1] (loop_rec (fun (s : Int) => match s with | i => [.slice (some ⟨0, 0, none⟩) xs.length c, wild, .pointer (some ⟨1, 0, none⟩), ii 0, ii i, wild, wild, wild, wild, wild, wild, wild, wild, wild, wild, wild, wild, wild, wild, wild, wild, wild, wild, wild, wild, wild, wild, wild, wild, wild, wild, wild, wild, wild, wild, wild, wild]) (fun (s : Int) => match s with | i => [(il xs ++ sp, none), (ti41.zero, some 41)]) (fun (s : Int) => match s with | i => ((xs.length : Int) - i).toNat) (fun (s : Int) => match s with | i => AllI xs i) (0) AllI.start ?_) (tmR_rfl rfl rfl) ⟨⟨⟨_, rfl, .plain rfl rfl (Row.all h1)⟩⟩, ⟨⟨_, rfl, .plain rfl rfl (by first | exact Plain.of rfl | exact Row.all (by assumption))⟩⟩, trivial⟩ rfl rfl; rintro fuel_ i hI IH; replace hI : AllI xs i := hI; conv => whnf)
    | exact next_forget [1] (IH (w64 (i + 1)) (by exact hI.next (of_decide_eq_true (show decide (i < (xs.length : Int)) = true by assumption)) hn (by first | assumption | exact AllI.bad hk_.2.2 hI.lo (of_decide_eq_true (show decide (i < (xs.length : Int)) = true by assumption)))) (by exact hI.mu (of_decide_eq_true (show decide (i < (xs.length : Int)) = true by assumption)) hn)) (tmR_rfl rfl rfl) ⟨⟨⟨_, rfl, .plain rfl rfl (Row.all h1)⟩⟩, ⟨⟨_, rfl, .plain rfl rfl (by first | exact Plain.of rfl | exact Row.all (by assumption))⟩⟩, trivial⟩ rfl rfl
    | (refine br_false (b := decide ((xs.length : Int).tmod 2 = 0)) (decide_eq_false (by rw [tmod2]; omega)) ?_; conv => whnf)
    | (refine br_false (b := decide ((xs.length : Int) > 60)) (decide_eq_false (by omega)) ?_; conv => whnf)
    | (refine br_in hI.lo (of_decide_eq_true (show decide (i < (xs.length : Int)) = true by assumption)) ?_; conv => whnf)
    | (refine force_eq (take_il (xs := xs) (i := (i).toNat) ?_ ?_) ?_; (focus (simp only [Nat.mul_one, Nat.zero_add]; done)); (focus (have := hI.lo; have := (of_decide_eq_true (show decide (i < (xs.length : Int)) = true by assumption)); omega; done)); conv => whnf)
    | (refine br_true (AllI.bad hk_.2.2 hI.lo (of_decide_eq_true (show decide (i < (xs.length : Int)) = true by assumption))) ?_; conv => whnf)
    | (refine CallOK.useR (c_l02OfList_ok h1 hn hg hp) [_] rfl rfl rfl ⟨⟨⟨_, rfl, .plain rfl (fun _ h_ => by first | exact h_ | cases h_) (Row.all h1)⟩⟩, trivial⟩ (fun v_ mem_ hR => ?_); obtain ⟨rfl, rfl⟩ := hR; refine ⟨rfl, ?_⟩; conv => whnf)
    | (exact out_forget [] ⟨rfl, rfl⟩ rfl (okB2_spec rfl) ⟨⟨⟨_, rfl, .plain rfl rfl (Row.all h1)⟩⟩, trivial⟩ rfl rfl)
    | (refine StoreK.mk rfl ?_; conv => whnf)
    | exact join_same
    | exact (by assumption : (_ : Bool) = (_ : Bool))
    | (refine br_true (by assumption) ?_; conv => whnf)
    | (refine br_false (by assumption) ?_; conv => whnf)
    | (refine br_not ?_; conv => whnf)
    | (refine br_code ?_; conv => whnf)
    | (with_reducible refine br_and ?_; conv => whnf)
    | (with_reducible refine br_or ?_; conv => whnf)
    | (refine br_eq2 ?_; conv => whnf)
    | (refine c_spec_l01Fits.call ?_; conv => whnf)
    | (refine c_spec_l01Fits.quiet ?_; conv => whnf)
    | (refine draw_auto (by decide +kernel) ?_; conv => whnf)
    | (refine draw_asg (by decide +kernel) ?_; conv => whnf)
    | (refine draw_st (by decide +kernel) ?_; conv => whnf)
    | (refine draw_call (by decide +kernel) ?_; conv => whnf)
    | (refine enter_same (loop_n 12 ?_); conv => whnf)
    | (refine next_same ?_; conv => whnf)
    | (refine mapK_row (by assumption) ?_; conv => whnf)
    | (refine mapK_plain (Plain.of rfl) ?_; conv => whnf)
    | (refine mapK_lit ?_; conv => whnf)
    | (refine br_split (fun _ => ?_) (fun _ => ?_) <;> conv => whnf)
    | exact (rfl : (_ : Value) = _)
    | (simp only [*]; exact (rfl : (_ : Value) = _))
    | (simp [*]; done))

set_option maxHeartbeats 1000000 in
theorem c_impl_CornerOfExpansion_zero {xs : List Int} {sp : List Value} {n c : Nat} {p0 q0 : Int} (h1 : Row (il xs) sp n c 1) (hn : n ≤ 1048576) (hk : okLst xs = true) (hg : ofGo xs.reverse 1 0 = some (p0, q0)) (hp : p0 = 0) : CallOK Try.prog n_impl_CornerOfExpansion [.slice (some ⟨0, 0, none⟩) n c] [(il xs ++ sp, none)] (fun v m_ => v = t2 (q4 0 0 0 0) (ii 5) ∧ m_ = [(il xs ++ sp, none)]) := by
  obtain rfl := row_il h1; have hk_ := okLst_iff.1 hk; have ha_ : xs.any (fun c => !isCoordF c) = false := (by rw [any_all, hk_.2.2]; rfl); refine callOK_ofF good fn_impl_CornerOfExpansion ?_
  conv => whnf
  all_goals (repeat' first
    | (refine CallOK.useR (c_contains_coord h1 hn) [_] rfl rfl rfl ⟨⟨⟨_, rfl, .plain rfl (fun _ h_ => by first | exact h_ | cases h_) (Row.all h1)⟩⟩, trivial⟩ (fun v_ mem_ hR => ?_); obtain ⟨rfl, rfl⟩ := hR; refine ⟨rfl, ?_⟩; conv => whnf)
    | (refine br_false (b := decide ((xs.length : Int).tmod 2 = 0)) (decide_eq_false (by rw [tmod2]; omega)) ?_; conv => whnf)
    | (refine br_false (b := decide ((xs.length : Int) > 60)) (decide_eq_false (by omega)) ?_; conv => whnf)
    | (refine br_false (b := List.any _ _) ha_ ?_; conv => whnf)
    | (refine CallR.call1 (c_ofList_zero h1 hn hg hp) rfl (plain_all (Row.all h1)) ⟨_, rfl⟩ ?_; conv => whnf)
    | (exact out_forget [] ⟨rfl, rfl⟩ rfl (okB2_spec rfl) ⟨⟨⟨_, rfl, .plain rfl rfl (Row.all h1)⟩⟩, trivial⟩ rfl rfl)
    | (refine StoreK.mk rfl ?_; conv => whnf)
    | exact join_same
    | exact (by assumption : (_ : Bool) = (_ : Bool))
    | (refine br_true (by assumption) ?_; conv => whnf)
    | (refine br_false (by assumption) ?_; conv => whnf)
    | (refine br_not ?_; conv => whnf)
    | (refine br_code ?_; conv => whnf)
    | (with_reducible refine br_and ?_; conv => whnf)
    | (with_reducible refine br_or ?_; conv => whnf)
    | (refine br_eq2 ?_; conv => whnf)
    | (refine draw_auto (by decide +kernel) ?_; conv => whnf)
    | (refine draw_asg (by decide +kernel) ?_; conv => whnf)
    | (refine draw_st (by decide +kernel) ?_; conv => whnf)
    | (refine draw_call (by decide +kernel) ?_; conv => whnf)
    | (refine enter_same (loop_n 12 ?_); conv => whnf)
    | (refine next_same ?_; conv => whnf)
    | (refine mapK_row (by assumption) ?_; conv => whnf)
    | (refine mapK_plain (Plain.of rfl) ?_; conv => whnf)
    | (refine mapK_lit ?_; conv => whnf)
    | (refine br_split (fun _ => ?_) (fun _ => ?_) <;> conv => whnf)
    | exact (rfl : (_ : Value) = _)
    | (simp only [*]; exact (rfl : (_ : Value) = _))
    | (simp [*]; done))

set_option maxHeartbeats 1000000 in
theorem c_spec_CornerOfExpansion_zero {xs : List Int} {sp : List Value} {n c : Nat} {p0 q0 : Int} (h1 : Row (il xs) sp n c 1) (hn : n ≤ 1048576) (hk : okLst xs = true) (hg : ofGo xs.reverse 1 0 = some (p0, q0)) (hp : p0 = 0) : CallOK Try.prog n_spec_CornerOfExpansion [.slice (some ⟨0, 0, none⟩) n c] [(il xs ++ sp, none)] (fun v m_ => v = t2 (q4 0 0 0 0) (ii 5) ∧ m_ = [(il xs ++ sp, none)]) := by
  obtain rfl := row_il h1; have hk_ := okLst_iff.1 hk; have ha_ : xs.any (fun c => !isCoordF c) = false := (by rw [any_all, hk_.2.2]; rfl); refine callOK_ofF good fn_spec_CornerOfExpansion ?_
  conv => whnf
  all_goals (repeat' first
    | (refine enter_forget [1] (loop_rec (fun (s : Int) => match s with | i => [.slice (some ⟨0, 0, none⟩) xs.length c, wild, .pointer (some ⟨1, 0, none⟩), ii 0, ii i, wild, wild, wild, wild, wild, wild, wild, wild, wild, wild, wild, wild, wild, wild, wild, wild, wild, wild, wild, wild, wild, wild, wild, wild, wild, wild, wild, wild, wild, wild, wild, wild]) (fun (s : Int) => match s with | i => [(il xs ++ sp, none), (ti41.zero, some 41)]) (fun (s : Int) => match s with | i => ((xs.length : Int) - i).toNat) (fun (s : Int) => match s with | i => AllI xs i) (0) AllI.start ?_) (tmR_rfl rfl rfl) ⟨⟨⟨_, rfl, .plain rfl rfl (Row.all h1)⟩⟩, ⟨⟨_, rfl, .plain rfl rfl (by first | exact Plain.of rfl | exact Row.all (by assumption))⟩⟩, trivial⟩ rfl rfl; rintro fuel_ i hI IH; replace hI : AllI xs i := hI; conv => whnf)
    | exact next_forget [1] (IH (w64 (i + 1)) (by exact hI.next (of_decide_eq_true (show decide (i < (xs.length : Int)) = true by assumption)) hn (by first | assumption | exact AllI.bad hk_.2.2 hI.lo (of_decide_eq_true (show decide (i < (xs.length : Int)) = true by assumption)))) (by exact hI.mu (of_decide_eq_true (show decide (i < (xs.length : Int)) = true by assumption)) hn)) (tmR_rfl rfl rfl) ⟨⟨⟨_, rfl, .plain rfl rfl (Row.all h1)⟩⟩, ⟨⟨_, rfl, .plain rfl rfl (by first | exact Plain.of rfl | exact Row.all (by assumption))⟩⟩, trivial⟩ rfl rfl
    | (refine br_false (b := decide ((xs.length : Int).tmod 2 = 0)) (decide_eq_false (by rw [tmod2]; omega)) ?_; conv => whnf)
    | (refine br_false (b := decide ((xs.length : Int) > 60)) (decide_eq_false (by omega)) ?_; conv => whnf)
    | (refine br_in hI.lo (of_decide_eq_true (show decide (i < (xs.length : Int)) = true by assumption)) ?_; conv => whnf)
    | (refine force_eq (take_il (xs := xs) (i := (i).toNat) ?_ ?_) ?_; (focus (simp only [Nat.mul_one, Nat.zero_add]; done)); (focus (have := hI.lo; have := (of_decide_eq_true (show decide (i < (xs.length : Int)) = true by assumption)); omega; done)); conv => whnf)
    | (refine br_true (AllI.bad hk_.2.2 hI.lo (of_decide_eq_true (show decide (i < (xs.length : Int)) = true by assumption))) ?_; conv => whnf)
    | (refine CallOK.useR (c_l02OfList_zero h1 hn hg hp) [_] rfl rfl rfl ⟨⟨⟨_, rfl, .plain rfl (fun _ h_ => by first | exact h_ | cases h_) (Row.all h1)⟩⟩, trivial⟩ (fun v_ mem_ hR => ?_); obtain ⟨rfl, rfl⟩ := hR; refine ⟨rfl, ?_⟩; conv => whnf)
    | (exact out_forget [] ⟨rfl, rfl⟩ rfl (okB2_spec rfl) ⟨⟨⟨_, rfl, .plain rfl rfl (Row.all h1)⟩⟩, trivial⟩ rfl rfl)
    | (refine StoreK.mk rfl ?_; conv => whnf)
    | exact join_same
    | exact (by assumption : (_ : Bool) = (_ : Bool))
    | (refine br_true (by assumption) ?_; conv => whnf)
    | (refine br_false (by assumption) ?_; conv => whnf)
    | (refine br_not ?_; conv => whnf)
    | (refine br_code ?_; conv => whnf)
    | (with_reducible refine br_and ?_; conv => whnf)
    | (with_reducible refine br_or ?_; conv => whnf)
    | (refine br_eq2 ?_; conv => whnf)
    | (refine c_spec_l01Fits.call ?_; conv => whnf)
    | (refine c_spec_l01Fits.quiet ?_; conv => whnf)
    | (refine draw_auto (by decide +kernel) ?_; conv => whnf)
    | (refine draw_asg (by decide +kernel) ?_; conv => whnf)
    | (refine draw_st (by decide +kernel) ?_; conv => whnf)
    | (refine draw_call (by decide +kernel) ?_; conv => whnf)
    | (refine enter_same (loop_n 12 ?_); conv => whnf)
    | (refine next_same ?_; conv => whnf)
    | (refine mapK_row (by assumption) ?_; conv => whnf)
    | (refine mapK_plain (Plain.of rfl) ?_; conv => whnf)
    | (refine mapK_lit ?_; conv => whnf)
    | (refine br_split (fun _ => ?_) (fun _ => ?_) <;> conv => whnf)
    | exact (rfl : (_ : Value) = _)
    | (simp only [*]; exact (rfl : (_ : Value) = _))
    | (simp [*]; done))

set_option maxHeartbeats 1000000 in
theorem c_impl_CornerOfExpansion_big {xs : List Int} {sp : List Value} {n c : Nat}  (h1 : Row (il xs) sp n c 1) (hn : n ≤ 1048576) (hk : okLst xs = true) (hg : ofGo xs.reverse 1 0 = none) : CallOK Try.prog n_impl_CornerOfExpansion [.slice (some ⟨0, 0, none⟩) n c] [(il xs ++ sp, none)] (fun v m_ => v = t2 (q4 0 0 0 0) (ii 3) ∧ m_ = [(il xs ++ sp, none)]) := by
  obtain rfl := row_il h1; have hk_ := okLst_iff.1 hk; have ha_ : xs.any (fun c => !isCoordF c) = false := (by rw [any_all, hk_.2.2]; rfl); refine callOK_ofF good fn_impl_CornerOfExpansion ?_
  conv => whnf
  all_goals (repeat' first
    | (refine CallOK.useR (c_contains_coord h1 hn) [_] rfl rfl rfl ⟨⟨⟨_, rfl, .plain rfl (fun _ h_ => by first | exact h_ | cases h_) (Row.all h1)⟩⟩, trivial⟩ (fun v_ mem_ hR => ?_); obtain ⟨rfl, rfl⟩ := hR; refine ⟨rfl, ?_⟩; conv => whnf)
    | (refine br_false (b := decide ((xs.length : Int).tmod 2 = 0)) (decide_eq_false (by rw [tmod2]; omega)) ?_; conv => whnf)
    | (refine br_false (b := decide ((xs.length : Int) > 60)) (decide_eq_false (by omega)) ?_; conv => whnf)
    | (refine br_false (b := List.any _ _) ha_ ?_; conv => whnf)
    | (refine CallR.call1 (c_ofList_big h1 hn hg) rfl (plain_all (Row.all h1)) ⟨_, rfl⟩ ?_; conv => whnf)
    | (exact out_forget [] ⟨rfl, rfl⟩ rfl (okB2_spec rfl) ⟨⟨⟨_, rfl, .plain rfl rfl (Row.all h1)⟩⟩, trivial⟩ rfl rfl)
    | (refine StoreK.mk rfl ?_; conv => whnf)
    | exact join_same
    | exact (by assumption : (_ : Bool) = (_ : Bool))
    | (refine br_true (by assumption) ?_; conv => whnf)
    | (refine br_false (by assumption) ?_; conv => whnf)
    | (refine br_not ?_; conv => whnf)
    | (refine br_code ?_; conv => whnf)
    | (with_reducible refine br_and ?_; conv => whnf)
    | (with_reducible refine br_or ?_; conv => whnf)
    | (refine br_eq2 ?_; conv => whnf)
    | (refine draw_auto (by decide +kernel) ?_; conv => whnf)
    | (refine draw_asg (by decide +kernel) ?_; conv => whnf)
    | (refine draw_st (by decide +kernel) ?_; conv => whnf)
    | (refine draw_call (by decide +kernel) ?_; conv => whnf)
    | (refine enter_same (loop_n 12 ?_); conv => whnf)
    | (refine next_same ?_; conv => whnf)
    | (refine mapK_row (by assumption) ?_; conv => whnf)
    | (refine mapK_plain (Plain.of rfl) ?_; conv => whnf)
    | (refine mapK_lit ?_; conv => whnf)
    | (refine br_split (fun _ => ?_) (fun _ => ?_) <;> conv => whnf)
    | exact (rfl : (_ : Value) = _)
    | (simp only [*]; exact (rfl : (_ : Value) = _))
    | (simp [*]; done))

set_option maxHeartbeats 1000000 in
theorem c_spec_CornerOfExpansion_big {xs : List Int} {sp : List Value} {n c : Nat}  (h1 : Row (il xs) sp n c 1) (hn : n ≤ 1048576) (hk : okLst xs = true) (hg : ofGo xs.reverse 1 0 = none) : CallOK Try.prog n_spec_CornerOfExpansion [.slice (some ⟨0, 0, none⟩) n c] [(il xs ++ sp, none)] (fun v m_ => v = t2 (q4 0 0 0 0) (ii 3) ∧ m_ = [(il xs ++ sp, none)]) := by
  obtain rfl := row_il h1; have hk_ := okLst_iff.1 hk; have ha_ : xs.any (fun c => !isCoordF c) = false := (by rw [any_all, hk_.2.2]; rfl); refine callOK_ofF good fn_spec_CornerOfExpansion ?_
  conv => whnf
  all_goals (repeat' first
    | (refine enter_forget [1] (loop_rec (fun (s : Int) => match s with | i => [.slice (some ⟨0, 0, none⟩) xs.length c, wild, .pointer (some ⟨1, 0, none⟩), ii 0, ii i, wild, wild, wild, wild, wild, wild, wild, wild, wild, wild, wild, wild, wild, wild, wild, wild, wild, wild, wild, wild, wild, wild, wild, wild, wild, wild, wild, wild, wild, wild, wild, wild]) (fun (s : Int) => match s with | i => [(il xs ++ sp, none), (ti41.zero, some 41)]) (fun (s : Int) => match s with | i => ((xs.length : Int) - i).toNat) (fun (s : Int) => match s with | i => AllI xs i) (0) AllI.start ?_) (tmR_rfl rfl rfl) ⟨⟨⟨_, rfl, .plain rfl rfl (Row.all h1)⟩⟩, ⟨⟨_, rfl, .plain rfl rfl (by first | exact Plain.of rfl | exact Row.all (by assumption))⟩⟩, trivial⟩ rfl rfl; rintro fuel_ i hI IH; replace hI : AllI xs i := hI; conv => whnf)
    | exact next_forget [1] (IH (w64 (i + 1)) (by exact hI.next (of_decide_eq_true (show decide (i < (xs.length : Int)) = true by assumption)) hn (by first | assumption | exact AllI.bad hk_.2.2 hI.lo (of_decide_eq_true (show decide (i < (xs.length : Int)) = true by assumption)))) (by exact hI.mu (of_decide_eq_true (show decide (i < (xs.length : Int)) = true by assumption)) hn)) (tmR_rfl rfl rfl) ⟨⟨⟨_, rfl, .plain rfl rfl (Row.all h1)⟩⟩, ⟨⟨_, rfl, .plain rfl rfl (by first | exact Plain.of rfl | exact Row.all (by assumption))⟩⟩, trivial⟩ rfl rfl
    | (refine br_false (b := decide ((xs.length : Int).tmod 2 = 0)) (decide_eq_false (by rw [tmod2]; omega)) ?_; conv => whnf)
    | (refine br_false (b := decide ((xs.length : Int) > 60)) (decide_eq_false (by omega)) ?_; conv => whnf)
    | (refine br_in hI.lo (of_decide_eq_true (show decide (i < (xs.length : Int)) = true by assumption)) ?_; conv => whnf)
    | (refine force_eq (take_il (xs := xs) (i := (i).toNat) ?_ ?_) ?_; (focus (simp only [Nat.mul_one, Nat.zero_add]; done)); (focus (have := hI.lo; have := (of_decide_eq_true (show decide (i < (xs.length : Int)) = true by assumption)); omega; done)); conv => whnf)
    | (refine br_true (AllI.bad hk_.2.2 hI.lo (of_decide_eq_true (show decide (i < (xs.length : Int)) = true by assumption))) ?_; conv => whnf)
    | (refine CallOK.useR (c_l02OfList_big h1 hn hg) [_] rfl rfl rfl ⟨⟨⟨_, rfl, .plain rfl (fun _ h_ => by first | exact h_ | cases h_) (Row.all h1)⟩⟩, trivial⟩ (fun v_ mem_ hR => ?_); obtain ⟨rfl, rfl⟩ := hR; refine ⟨rfl, ?_⟩; conv => whnf)
    | (exact out_forget [] ⟨rfl, rfl⟩ rfl (okB2_spec rfl) ⟨⟨⟨_, rfl, .plain rfl rfl (Row.all h1)⟩⟩, trivial⟩ rfl rfl)
    | (refine StoreK.mk rfl ?_; conv => whnf)
    | exact join_same
    | exact (by assumption : (_ : Bool) = (_ : Bool))
    | (refine br_true (by assumption) ?_; conv => whnf)
    | (refine br_false (by assumption) ?_; conv => whnf)
    | (refine br_not ?_; conv => whnf)
    | (refine br_code ?_; conv => whnf)
    | (with_reducible refine br_and ?_; conv => whnf)
    | (with_reducible refine br_or ?_; conv => whnf)
    | (refine br_eq2 ?_; conv => whnf)
    | (refine c_spec_l01Fits.call ?_; conv => whnf)
    | (refine c_spec_l01Fits.quiet ?_; conv => whnf)
    | (refine draw_auto (by decide +kernel) ?_; conv => whnf)
    | (refine draw_asg (by decide +kernel) ?_; conv => whnf)
    | (refine draw_st (by decide +kernel) ?_; conv => whnf)
    | (refine draw_call (by decide +kernel) ?_; conv => whnf)
    | (refine enter_same (loop_n 12 ?_); conv => whnf)
    | (refine next_same ?_; conv => whnf)
    | (refine mapK_row (by assumption) ?_; conv => whnf)
    | (refine mapK_plain (Plain.of rfl) ?_; conv => whnf)
    | (refine mapK_lit ?_; conv => whnf)
    | (refine br_split (fun _ => ?_) (fun _ => ?_) <;> conv => whnf)
    | exact (rfl : (_ : Value) = _)
    | (simp only [*]; exact (rfl : (_ : Value) = _))
    | (simp [*]; done))

set_option maxHeartbeats 1000000 in
theorem c_impl_CornerOfExpansion_no {xs : List Int} {sp : List Value} {n c : Nat}  (h1 : Row (il xs) sp n c 1) (hn : n ≤ 1048576) (hk : okLst xs = false) : CallOK Try.prog n_impl_CornerOfExpansion [.slice (some ⟨0, 0, none⟩) n c] [(il xs ++ sp, none)] (fun v m_ => v = t2 (q4 0 0 0 0) (ii 2) ∧ m_ = [(il xs ++ sp, none)]) := by
  obtain rfl := row_il h1; have hk_ : ¬ (xs.length % 2 = 1 ∧ xs.length ≤ 60 ∧ xs.all isCoordF = true) := (fun h_ => by rw [okLst_iff.2 h_] at hk; cases hk); have ha_ : xs.any (fun c => !isCoordF c) = !xs.all isCoordF := any_all; refine callOK_ofF good fn_impl_CornerOfExpansion ?_
  conv => whnf
  all_goals (repeat' first
    | (refine CallOK.useR (c_contains_coord h1 hn) [_] rfl rfl rfl ⟨⟨⟨_, rfl, .plain rfl (fun _ h_ => by first | exact h_ | cases h_) (Row.all h1)⟩⟩, trivial⟩ (fun v_ mem_ hR => ?_); obtain ⟨rfl, rfl⟩ := hR; refine ⟨rfl, ?_⟩; conv => whnf)
    | (exfalso; have t1_ := of_decide_eq_false (show decide ((xs.length : Int).tmod 2 = 0) = false by assumption); have t2_ := of_decide_eq_false (show decide ((xs.length : Int) > 60) = false by assumption); have t3_ : xs.any (fun c => !isCoordF c) = false := (by assumption); rw [ha_] at t3_; rw [tmod2] at t1_; exact hk_ ⟨by omega, by omega, by simpa using t3_⟩)
    | (exact out_forget [] ⟨rfl, rfl⟩ rfl (okB2_spec rfl) ⟨⟨⟨_, rfl, .plain rfl rfl (Row.all h1)⟩⟩, trivial⟩ rfl rfl)
    | (refine StoreK.mk rfl ?_; conv => whnf)
    | exact join_same
    | exact (by assumption : (_ : Bool) = (_ : Bool))
    | (refine br_true (by assumption) ?_; conv => whnf)
    | (refine br_false (by assumption) ?_; conv => whnf)
    | (refine br_not ?_; conv => whnf)
    | (refine br_code ?_; conv => whnf)
    | (with_reducible refine br_and ?_; conv => whnf)
    | (with_reducible refine br_or ?_; conv => whnf)
    | (refine br_eq2 ?_; conv => whnf)
    | (refine draw_auto (by decide +kernel) ?_; conv => whnf)
    | (refine draw_asg (by decide +kernel) ?_; conv => whnf)
    | (refine draw_st (by decide +kernel) ?_; conv => whnf)
    | (refine draw_call (by decide +kernel) ?_; conv => whnf)
    | (refine enter_same (loop_n 12 ?_); conv => whnf)
    | (refine next_same ?_; conv => whnf)
    | (refine mapK_row (by assumption) ?_; conv => whnf)
    | (refine mapK_plain (Plain.of rfl) ?_; conv => whnf)
    | (refine mapK_lit ?_; conv => whnf)
    | (refine br_split (fun _ => ?_) (fun _ => ?_) <;> conv => whnf)
    | exact (rfl : (_ : Value) = _)
    | (simp only [*]; exact (rfl : (_ : Value) = _))
    | (simp [*]; done))

set_option maxHeartbeats 1000000 in
theorem c_spec_CornerOfExpansion_no {xs : List Int} {sp : List Value} {n c : Nat}  (h1 : Row (il xs) sp n c 1) (hn : n ≤ 1048576) (hk : okLst xs = false) : CallOK Try.prog n_spec_CornerOfExpansion [.slice (some ⟨0, 0, none⟩) n c] [(il xs ++ sp, none)] (fun v m_ => v = t2 (q4 0 0 0 0) (ii 2) ∧ m_ = [(il xs ++ sp, none)]) := by
  obtain rfl := row_il h1; have hk_ : ¬ (xs.length % 2 = 1 ∧ xs.length ≤ 60 ∧ xs.all isCoordF = true) := (fun h_ => by rw [okLst_iff.2 h_] at hk; cases hk); have ha_ : xs.any (fun c => !isCoordF c) = !xs.all isCoordF := any_all; refine callOK_ofF good fn_spec_CornerOfExpansion ?_
  conv => whnf
  all_goals (repeat' first
    | (refine enter_forget [1] (loop_rec (fun (s : Int) => match s with | i => [.slice (some ⟨0, 0, none⟩) xs.length c, wild, .pointer (some ⟨1, 0, none⟩), ii 0, ii i, wild, wild, wild, wild, wild, wild, wild, wild, wild, wild, wild, wild, wild, wild, wild, wild, wild, wild, wild, wild, wild, wild, wild, wild, wild, wild, wild, wild, wild, wild, wild, wild]) (fun (s : Int) => match s with | i => [(il xs ++ sp, none), (ti41.zero, some 41)]) (fun (s : Int) => match s with | i => ((xs.length : Int) - i).toNat) (fun (s : Int) => match s with | i => AllI xs i) (0) AllI.start ?_) (tmR_rfl rfl rfl) ⟨⟨⟨_, rfl, .plain rfl rfl (Row.all h1)⟩⟩, ⟨⟨_, rfl, .plain rfl rfl (by first | exact Plain.of rfl | exact Row.all (by assumption))⟩⟩, trivial⟩ rfl rfl; rintro fuel_ i hI IH; replace hI : AllI xs i := hI; conv => whnf)
    | exact next_forget [1] (IH (w64 (i + 1)) (by exact hI.next (of_decide_eq_true (show decide (i < (xs.length : Int)) = true by assumption)) hn (by first | assumption | exact AllI.bad hk_.2.2 hI.lo (of_decide_eq_true (show decide (i < (xs.length : Int)) = true by assumption)))) (by exact hI.mu (of_decide_eq_true (show decide (i < (xs.length : Int)) = true by assumption)) hn)) (tmR_rfl rfl rfl) ⟨⟨⟨_, rfl, .plain rfl rfl (Row.all h1)⟩⟩, ⟨⟨_, rfl, .plain rfl rfl (by first | exact Plain.of rfl | exact Row.all (by assumption))⟩⟩, trivial⟩ rfl rfl
    | (refine br_in hI.lo (of_decide_eq_true (show decide (i < (xs.length : Int)) = true by assumption)) ?_; conv => whnf)
    | (refine force_eq (take_il (xs := xs) (i := (i).toNat) ?_ ?_) ?_; (focus (simp only [Nat.mul_one, Nat.zero_add]; done)); (focus (have := hI.lo; have := (of_decide_eq_true (show decide (i < (xs.length : Int)) = true by assumption)); omega; done)); conv => whnf)
    | (exfalso; have t1_ := of_decide_eq_false (show decide ((xs.length : Int).tmod 2 = 0) = false by assumption); have t2_ := of_decide_eq_false (show decide ((xs.length : Int) > 60) = false by assumption); rw [tmod2] at t1_; exact hk_ ⟨by omega, by omega, hI.all (of_decide_eq_false (show decide (i < (xs.length : Int)) = false by assumption))⟩)
    | (exact out_forget [] ⟨rfl, rfl⟩ rfl (okB2_spec rfl) ⟨⟨⟨_, rfl, .plain rfl rfl (Row.all h1)⟩⟩, trivial⟩ rfl rfl)
    | (refine StoreK.mk rfl ?_; conv => whnf)
    | exact join_same
    | exact (by assumption : (_ : Bool) = (_ : Bool))
    | (refine br_true (by assumption) ?_; conv => whnf)
    | (refine br_false (by assumption) ?_; conv => whnf)
    | (refine br_not ?_; conv => whnf)
    | (refine br_code ?_; conv => whnf)
    | (with_reducible refine br_and ?_; conv => whnf)
    | (with_reducible refine br_or ?_; conv => whnf)
    | (refine br_eq2 ?_; conv => whnf)
    | (refine c_spec_l01Fits.call ?_; conv => whnf)
    | (refine c_spec_l01Fits.quiet ?_; conv => whnf)
    | (refine draw_auto (by decide +kernel) ?_; conv => whnf)
    | (refine draw_asg (by decide +kernel) ?_; conv => whnf)
    | (refine draw_st (by decide +kernel) ?_; conv => whnf)
    | (refine draw_call (by decide +kernel) ?_; conv => whnf)
    | (refine enter_same (loop_n 12 ?_); conv => whnf)
    | (refine next_same ?_; conv => whnf)
    | (refine mapK_row (by assumption) ?_; conv => whnf)
    | (refine mapK_plain (Plain.of rfl) ?_; conv => whnf)
    | (refine mapK_lit ?_; conv => whnf)
    | (refine br_split (fun _ => ?_) (fun _ => ?_) <;> conv => whnf)
    | exact (rfl : (_ : Value) = _)
    | (simp only [*]; exact (rfl : (_ : Value) = _))
    | (simp [*]; done))

theorem c_impl_CornerOfExpansion_all {xs : List Int} {sp : List Value} {n c : Nat} (h1 : Row (il xs) sp n c 1) (hn : n ≤ 1048576) : CallOK Try.prog n_impl_CornerOfExpansion [.slice (some ⟨0, 0, none⟩) n c] [(il xs ++ sp, none)] (fun v m_ => v = t2 (q4 (lstT xs).1 (lstT xs).2.1 (lstT xs).2.2.1 (lstT xs).2.2.2.1) (ii (lstT xs).2.2.2.2) ∧ m_ = [(il xs ++ sp, none)]) := by
  cases hk : okLst xs
  · have := c_impl_CornerOfExpansion_no h1 hn hk
    have e : lstT xs = (0, 0, 0, 0, 2) := by unfold lstT; rw [hk]; rfl
    rw [e]; exact this
  · have e : lstT xs = goT (ofGo xs.reverse 1 0) := by unfold lstT; rw [hk]; rfl
    rw [e]
    cases hg : ofGo xs.reverse 1 0 with
    | none => exact c_impl_CornerOfExpansion_big h1 hn hk hg
    | some r =>
      obtain ⟨p0, q0⟩ := r
      by_cases hp : p0 = 0
      · have e2 : goT (some (p0, q0)) = (0, 0, 0, 0, 5) := if_pos hp
        rw [e2]; exact c_impl_CornerOfExpansion_zero h1 hn hk hg hp
      · have e2 : goT (some (p0, q0)) = (1, 0, q0, p0, 0) := if_neg hp
        rw [e2]; exact c_impl_CornerOfExpansion_ok h1 hn hk hg hp

theorem c_spec_CornerOfExpansion_all {xs : List Int} {sp : List Value} {n c : Nat} (h1 : Row (il xs) sp n c 1) (hn : n ≤ 1048576) : CallOK Try.prog n_spec_CornerOfExpansion [.slice (some ⟨0, 0, none⟩) n c] [(il xs ++ sp, none)] (fun v m_ => v = t2 (q4 (lstT xs).1 (lstT xs).2.1 (lstT xs).2.2.1 (lstT xs).2.2.2.1) (ii (lstT xs).2.2.2.2) ∧ m_ = [(il xs ++ sp, none)]) := by
  cases hk : okLst xs
  · have := c_spec_CornerOfExpansion_no h1 hn hk
    have e : lstT xs = (0, 0, 0, 0, 2) := by unfold lstT; rw [hk]; rfl
    rw [e]; exact this
  · have e : lstT xs = goT (ofGo xs.reverse 1 0) := by unfold lstT; rw [hk]; rfl
    rw [e]
    cases hg : ofGo xs.reverse 1 0 with
    | none => exact c_spec_CornerOfExpansion_big h1 hn hk hg
    | some r =>
      obtain ⟨p0, q0⟩ := r
      by_cases hp : p0 = 0
      · have e2 : goT (some (p0, q0)) = (0, 0, 0, 0, 5) := if_pos hp
        rw [e2]; exact c_spec_CornerOfExpansion_zero h1 hn hk hg hp
      · have e2 : goT (some (p0, q0)) = (1, 0, q0, p0, 0) := if_neg hp
        rw [e2]; exact c_spec_CornerOfExpansion_ok h1 hn hk hg hp

end Go.Proofs.Ytlkbfpklhncfbaa
end

section
/-
  Contracts of functions of the program (printed by a program of this work; Lean checks each).
  Conditions: as each contract states.
-/
namespace Go.Proofs.Ytlkbfpklhncfbaa
open Go.Ev Go.RowKit
set_option maxRecDepth 100000
set_option linter.unusedVariables false
set_option linter.unusedSimpArgs false

attribute [local irreducible] isCornF bigF detF ofGo isCoordF longL

theorem pure_ofX {P : Program} {f : Nat} {args : List Value} {V : Value} (ha : allL plain args = true) (hv : plain V = true) (h : CallOK P f args [] (fun v m_ => v = V ∧ m_ = [])) : Pure P f args V :=
  ⟨h.enters, ha, hv, fun w => by
    have := h.run ⟨w, []⟩ [] w (MemAt.start w) (fun u hu => (plain_ok (allL_spec ha u hu) _ []).1)
    rw [map_conc_plain ha] at this
    refine this.mono fun e w' ⟨v, mem', σ, he, _, hm, hk⟩ => ?_
    obtain ⟨rfl, rfl⟩ := hk
    exact ⟨by rw [he, (plain_ok hv 0 _).2], hm.toBelow⟩⟩

theorem p_impl_SumOfCorners_bad {a b c d e f g i m : Int}  (hk : (isCornF a b c d && isCornF e f g i) = false) : Pure Try.prog n_impl_SumOfCorners [q4 a b c d, q4 e f g i, ii m] (t2 (q4 0 0 0 0) (ii 1)) := pure_ofX rfl rfl (c_impl_SumOfCorners_bad hk)

theorem p_spec_SumOfCorners_bad {a b c d e f g i m : Int}  (hk : (isCornF a b c d && isCornF e f g i) = false) : Pure Try.prog n_spec_SumOfCorners [q4 a b c d, q4 e f g i, ii m] (t2 (q4 0 0 0 0) (ii 1)) := pure_ofX rfl rfl (c_spec_SumOfCorners_bad hk)

theorem c_law_SumOfCorners_bad {a b c d e f g i m : Int}  (hk : (isCornF a b c d && isCornF e f g i) = false) : Pure Try.prog n_laws_FnExactSumOfCorners [q4 a b c d, q4 e f g i, ii m] (bb true) := by
  refine pure_of good fn_laws_FnExactSumOfCorners rfl rfl ?_
  conv => whnf
  all_goals (repeat' first
    | (refine (p_impl_SumOfCorners_bad hk).quiet ?_; conv => whnf)
    | (refine (p_impl_SumOfCorners_bad hk).call ?_; conv => whnf)
    | (refine (p_spec_SumOfCorners_bad hk).quiet ?_; conv => whnf)
    | (refine (p_spec_SumOfCorners_bad hk).call ?_; conv => whnf)
    | (refine br_true ?_ ?_; (focus (simp; done)); conv => whnf)
    | (refine br_false ?_ ?_; (focus (simp; done)); conv => whnf)
    | (refine br_false (decide_eq_false (by omega)) ?_; conv => whnf)
    | (refine draw_call (by decide +kernel) ?_; conv => whnf)
    | (refine StoreK.mk rfl ?_; conv => whnf)
    | exact join_same
    | exact (by assumption : (_ : Bool) = (_ : Bool))
    | (refine br_true (by assumption) ?_; conv => whnf)
    | (refine br_false (by assumption) ?_; conv => whnf)
    | (refine br_not ?_; conv => whnf)
    | (refine br_code ?_; conv => whnf)
    | (with_reducible refine br_and ?_; conv => whnf)
    | (with_reducible refine br_or ?_; conv => whnf)
    | (refine br_eq2 ?_; conv => whnf)
    | (refine c_laws_toCorner.call ?_; conv => whnf)
    | (refine c_laws_toCorner.quiet ?_; conv => whnf)
    | (refine c_eqCorner_same.call ?_; conv => whnf)
    | (refine c_eqCorner_same.quiet ?_; conv => whnf)
    | (refine draw_auto (by decide +kernel) ?_; conv => whnf)
    | (refine draw_asg (by decide +kernel) ?_; conv => whnf)
    | (refine draw_st (by decide +kernel) ?_; conv => whnf)
    | (refine draw_call (by decide +kernel) ?_; conv => whnf)
    | (refine enter_same (loop_n 12 ?_); conv => whnf)
    | (refine next_same ?_; conv => whnf)
    | (refine mapK_row (by assumption) ?_; conv => whnf)
    | (refine mapK_plain (Plain.of rfl) ?_; conv => whnf)
    | (refine mapK_lit ?_; conv => whnf)
    | (refine br_split (fun _ => ?_) (fun _ => ?_) <;> conv => whnf)
    | exact (rfl : (_ : Value) = _)
    | (simp only [*]; exact (rfl : (_ : Value) = _))
    | (simp [*]; done))

theorem p_impl_SumOfCorners_rng {a b c d e f g i m : Int}  (h : isCornF a b c d = true) (k : isCornF e f g i = true) (h2 : bigF a b c d = false) (k2 : bigF e f g i = false) (hm : isCoordF m = false) : Pure Try.prog n_impl_SumOfCorners [q4 a b c d, q4 e f g i, ii m] (t2 (q4 0 0 0 0) (ii 2)) := pure_ofX rfl rfl (c_impl_SumOfCorners_rng h k h2 k2 hm)

theorem p_spec_SumOfCorners_rng {a b c d e f g i m : Int}  (h : isCornF a b c d = true) (k : isCornF e f g i = true) (h2 : bigF a b c d = false) (k2 : bigF e f g i = false) (hm : isCoordF m = false) : Pure Try.prog n_spec_SumOfCorners [q4 a b c d, q4 e f g i, ii m] (t2 (q4 0 0 0 0) (ii 2)) := pure_ofX rfl rfl (c_spec_SumOfCorners_rng h k h2 k2 hm)

theorem c_law_SumOfCorners_rng {a b c d e f g i m : Int}  (h : isCornF a b c d = true) (k : isCornF e f g i = true) (h2 : bigF a b c d = false) (k2 : bigF e f g i = false) (hm : isCoordF m = false) : Pure Try.prog n_laws_FnExactSumOfCorners [q4 a b c d, q4 e f g i, ii m] (bb true) := by
  refine pure_of good fn_laws_FnExactSumOfCorners rfl rfl ?_
  conv => whnf
  all_goals (repeat' first
    | (refine (p_impl_SumOfCorners_rng h k h2 k2 hm).quiet ?_; conv => whnf)
    | (refine (p_impl_SumOfCorners_rng h k h2 k2 hm).call ?_; conv => whnf)
    | (refine (p_spec_SumOfCorners_rng h k h2 k2 hm).quiet ?_; conv => whnf)
    | (refine (p_spec_SumOfCorners_rng h k h2 k2 hm).call ?_; conv => whnf)
    | (refine br_true ?_ ?_; (focus (simp; done)); conv => whnf)
    | (refine br_false ?_ ?_; (focus (simp; done)); conv => whnf)
    | (refine br_false (decide_eq_false (by omega)) ?_; conv => whnf)
    | (refine draw_call (by decide +kernel) ?_; conv => whnf)
    | (refine StoreK.mk rfl ?_; conv => whnf)
    | exact join_same
    | exact (by assumption : (_ : Bool) = (_ : Bool))
    | (refine br_true (by assumption) ?_; conv => whnf)
    | (refine br_false (by assumption) ?_; conv => whnf)
    | (refine br_not ?_; conv => whnf)
    | (refine br_code ?_; conv => whnf)
    | (with_reducible refine br_and ?_; conv => whnf)
    | (with_reducible refine br_or ?_; conv => whnf)
    | (refine br_eq2 ?_; conv => whnf)
    | (refine c_laws_toCorner.call ?_; conv => whnf)
    | (refine c_laws_toCorner.quiet ?_; conv => whnf)
    | (refine c_eqCorner_same.call ?_; conv => whnf)
    | (refine c_eqCorner_same.quiet ?_; conv => whnf)
    | (refine draw_auto (by decide +kernel) ?_; conv => whnf)
    | (refine draw_asg (by decide +kernel) ?_; conv => whnf)
    | (refine draw_st (by decide +kernel) ?_; conv => whnf)
    | (refine draw_call (by decide +kernel) ?_; conv => whnf)
    | (refine enter_same (loop_n 12 ?_); conv => whnf)
    | (refine next_same ?_; conv => whnf)
    | (refine mapK_row (by assumption) ?_; conv => whnf)
    | (refine mapK_plain (Plain.of rfl) ?_; conv => whnf)
    | (refine mapK_lit ?_; conv => whnf)
    | (refine br_split (fun _ => ?_) (fun _ => ?_) <;> conv => whnf)
    | exact (rfl : (_ : Value) = _)
    | (simp only [*]; exact (rfl : (_ : Value) = _))
    | (simp [*]; done))

theorem p_impl_SumOfCorners_rnh {a b c d e f g i m : Int}  (h : isCornF a b c d = true) (k : isCornF e f g i = true) (hb : (bigF a b c d || bigF e f g i) = true) (hm : isCoordF m = false) : Pure Try.prog n_impl_SumOfCorners [q4 a b c d, q4 e f g i, ii m] (t2 (q4 0 0 0 0) (ii 2)) := pure_ofX rfl rfl (c_impl_SumOfCorners_rnh h k hb hm)

theorem p_spec_SumOfCorners_rnh {a b c d e f g i m : Int}  (h : isCornF a b c d = true) (k : isCornF e f g i = true) (hb : (bigF a b c d || bigF e f g i) = true) (hm : isCoordF m = false) : Pure Try.prog n_spec_SumOfCorners [q4 a b c d, q4 e f g i, ii m] (t2 (q4 0 0 0 0) (ii 2)) := pure_ofX rfl rfl (c_spec_SumOfCorners_rnh h k hb hm)

theorem c_law_SumOfCorners_rnh {a b c d e f g i m : Int}  (h : isCornF a b c d = true) (k : isCornF e f g i = true) (hb : (bigF a b c d || bigF e f g i) = true) (hm : isCoordF m = false) : Pure Try.prog n_laws_FnExactSumOfCorners [q4 a b c d, q4 e f g i, ii m] (bb true) := by
  refine pure_of good fn_laws_FnExactSumOfCorners rfl rfl ?_
  conv => whnf
  all_goals (repeat' first
    | (refine (p_impl_SumOfCorners_rnh h k hb hm).quiet ?_; conv => whnf)
    | (refine (p_impl_SumOfCorners_rnh h k hb hm).call ?_; conv => whnf)
    | (refine (p_spec_SumOfCorners_rnh h k hb hm).quiet ?_; conv => whnf)
    | (refine (p_spec_SumOfCorners_rnh h k hb hm).call ?_; conv => whnf)
    | (refine br_true ?_ ?_; (focus (simp; done)); conv => whnf)
    | (refine br_false ?_ ?_; (focus (simp; done)); conv => whnf)
    | (refine br_false (decide_eq_false (by omega)) ?_; conv => whnf)
    | (refine draw_call (by decide +kernel) ?_; conv => whnf)
    | (refine StoreK.mk rfl ?_; conv => whnf)
    | exact join_same
    | exact (by assumption : (_ : Bool) = (_ : Bool))
    | (refine br_true (by assumption) ?_; conv => whnf)
    | (refine br_false (by assumption) ?_; conv => whnf)
    | (refine br_not ?_; conv => whnf)
    | (refine br_code ?_; conv => whnf)
    | (with_reducible refine br_and ?_; conv => whnf)
    | (with_reducible refine br_or ?_; conv => whnf)
    | (refine br_eq2 ?_; conv => whnf)
    | (refine c_laws_toCorner.call ?_; conv => whnf)
    | (refine c_laws_toCorner.quiet ?_; conv => whnf)
    | (refine c_eqCorner_same.call ?_; conv => whnf)
    | (refine c_eqCorner_same.quiet ?_; conv => whnf)
    | (refine draw_auto (by decide +kernel) ?_; conv => whnf)
    | (refine draw_asg (by decide +kernel) ?_; conv => whnf)
    | (refine draw_st (by decide +kernel) ?_; conv => whnf)
    | (refine draw_call (by decide +kernel) ?_; conv => whnf)
    | (refine enter_same (loop_n 12 ?_); conv => whnf)
    | (refine next_same ?_; conv => whnf)
    | (refine mapK_row (by assumption) ?_; conv => whnf)
    | (refine mapK_plain (Plain.of rfl) ?_; conv => whnf)
    | (refine mapK_lit ?_; conv => whnf)
    | (refine br_split (fun _ => ?_) (fun _ => ?_) <;> conv => whnf)
    | exact (rfl : (_ : Value) = _)
    | (simp only [*]; exact (rfl : (_ : Value) = _))
    | (simp [*]; done))

theorem p_impl_SumOfCorners_huge {a b c d e f g i m : Int}  (h : isCornF a b c d = true) (k : isCornF e f g i = true) (hm : isCoordF m = true) (hb : (bigF a b c d || bigF e f g i) = true) : Pure Try.prog n_impl_SumOfCorners [q4 a b c d, q4 e f g i, ii m] (t2 (q4 0 0 0 0) (ii 3)) := pure_ofX rfl rfl (c_impl_SumOfCorners_huge h k hm hb)

theorem p_spec_SumOfCorners_huge {a b c d e f g i m : Int}  (h : isCornF a b c d = true) (k : isCornF e f g i = true) (hm : isCoordF m = true) (hb : (bigF a b c d || bigF e f g i) = true) : Pure Try.prog n_spec_SumOfCorners [q4 a b c d, q4 e f g i, ii m] (t2 (q4 0 0 0 0) (ii 3)) := pure_ofX rfl rfl (c_spec_SumOfCorners_huge h k hm hb)

theorem c_law_SumOfCorners_huge {a b c d e f g i m : Int}  (h : isCornF a b c d = true) (k : isCornF e f g i = true) (hm : isCoordF m = true) (hb : (bigF a b c d || bigF e f g i) = true) : Pure Try.prog n_laws_FnExactSumOfCorners [q4 a b c d, q4 e f g i, ii m] (bb true) := by
  refine pure_of good fn_laws_FnExactSumOfCorners rfl rfl ?_
  conv => whnf
  all_goals (repeat' first
    | (refine (p_impl_SumOfCorners_huge h k hm hb).quiet ?_; conv => whnf)
    | (refine (p_impl_SumOfCorners_huge h k hm hb).call ?_; conv => whnf)
    | (refine (p_spec_SumOfCorners_huge h k hm hb).quiet ?_; conv => whnf)
    | (refine (p_spec_SumOfCorners_huge h k hm hb).call ?_; conv => whnf)
    | (refine br_true ?_ ?_; (focus (simp; done)); conv => whnf)
    | (refine br_false ?_ ?_; (focus (simp; done)); conv => whnf)
    | (refine br_false (decide_eq_false (by omega)) ?_; conv => whnf)
    | (refine draw_call (by decide +kernel) ?_; conv => whnf)
    | (refine StoreK.mk rfl ?_; conv => whnf)
    | exact join_same
    | exact (by assumption : (_ : Bool) = (_ : Bool))
    | (refine br_true (by assumption) ?_; conv => whnf)
    | (refine br_false (by assumption) ?_; conv => whnf)
    | (refine br_not ?_; conv => whnf)
    | (refine br_code ?_; conv => whnf)
    | (with_reducible refine br_and ?_; conv => whnf)
    | (with_reducible refine br_or ?_; conv => whnf)
    | (refine br_eq2 ?_; conv => whnf)
    | (refine c_laws_toCorner.call ?_; conv => whnf)
    | (refine c_laws_toCorner.quiet ?_; conv => whnf)
    | (refine c_eqCorner_same.call ?_; conv => whnf)
    | (refine c_eqCorner_same.quiet ?_; conv => whnf)
    | (refine draw_auto (by decide +kernel) ?_; conv => whnf)
    | (refine draw_asg (by decide +kernel) ?_; conv => whnf)
    | (refine draw_st (by decide +kernel) ?_; conv => whnf)
    | (refine draw_call (by decide +kernel) ?_; conv => whnf)
    | (refine enter_same (loop_n 12 ?_); conv => whnf)
    | (refine next_same ?_; conv => whnf)
    | (refine mapK_row (by assumption) ?_; conv => whnf)
    | (refine mapK_plain (Plain.of rfl) ?_; conv => whnf)
    | (refine mapK_lit ?_; conv => whnf)
    | (refine br_split (fun _ => ?_) (fun _ => ?_) <;> conv => whnf)
    | exact (rfl : (_ : Value) = _)
    | (simp only [*]; exact (rfl : (_ : Value) = _))
    | (simp [*]; done))

theorem p_impl_SumOfCorners_long {a b c d e f g i m : Int}  (h : isCornF a b c d = true) (k : isCornF e f g i = true) (hm : isCoordF m = true) (h2 : bigF a b c d = false) (k2 : bigF e f g i = false) (hl : ¬ (sumL (longL (expL (sineF a b c d) (cosF a b c d))) (longL (expL (sineF e f g i) (cosF e f g i))) m).length ≤ 60) : Pure Try.prog n_impl_SumOfCorners [q4 a b c d, q4 e f g i, ii m] (t2 (q4 0 0 0 0) (ii 3)) := pure_ofX rfl rfl (c_impl_SumOfCorners_long h k hm h2 k2 hl)

theorem p_spec_SumOfCorners_long {a b c d e f g i m : Int}  (h : isCornF a b c d = true) (k : isCornF e f g i = true) (hm : isCoordF m = true) (h2 : bigF a b c d = false) (k2 : bigF e f g i = false) (hl : ¬ (sumL (longL (expL (sineF a b c d) (cosF a b c d))) (longL (expL (sineF e f g i) (cosF e f g i))) m).length ≤ 60) : Pure Try.prog n_spec_SumOfCorners [q4 a b c d, q4 e f g i, ii m] (t2 (q4 0 0 0 0) (ii 3)) := pure_ofX rfl rfl (c_spec_SumOfCorners_long h k hm h2 k2 hl)

theorem c_law_SumOfCorners_long {a b c d e f g i m : Int}  (h : isCornF a b c d = true) (k : isCornF e f g i = true) (hm : isCoordF m = true) (h2 : bigF a b c d = false) (k2 : bigF e f g i = false) (hl : ¬ (sumL (longL (expL (sineF a b c d) (cosF a b c d))) (longL (expL (sineF e f g i) (cosF e f g i))) m).length ≤ 60) : Pure Try.prog n_laws_FnExactSumOfCorners [q4 a b c d, q4 e f g i, ii m] (bb true) := by
  refine pure_of good fn_laws_FnExactSumOfCorners rfl rfl ?_
  conv => whnf
  all_goals (repeat' first
    | (refine (p_impl_SumOfCorners_long h k hm h2 k2 hl).quiet ?_; conv => whnf)
    | (refine (p_impl_SumOfCorners_long h k hm h2 k2 hl).call ?_; conv => whnf)
    | (refine (p_spec_SumOfCorners_long h k hm h2 k2 hl).quiet ?_; conv => whnf)
    | (refine (p_spec_SumOfCorners_long h k hm h2 k2 hl).call ?_; conv => whnf)
    | (refine br_true ?_ ?_; (focus (simp; done)); conv => whnf)
    | (refine br_false ?_ ?_; (focus (simp; done)); conv => whnf)
    | (refine br_false (decide_eq_false (by omega)) ?_; conv => whnf)
    | (refine draw_call (by decide +kernel) ?_; conv => whnf)
    | (refine StoreK.mk rfl ?_; conv => whnf)
    | exact join_same
    | exact (by assumption : (_ : Bool) = (_ : Bool))
    | (refine br_true (by assumption) ?_; conv => whnf)
    | (refine br_false (by assumption) ?_; conv => whnf)
    | (refine br_not ?_; conv => whnf)
    | (refine br_code ?_; conv => whnf)
    | (with_reducible refine br_and ?_; conv => whnf)
    | (with_reducible refine br_or ?_; conv => whnf)
    | (refine br_eq2 ?_; conv => whnf)
    | (refine c_laws_toCorner.call ?_; conv => whnf)
    | (refine c_laws_toCorner.quiet ?_; conv => whnf)
    | (refine c_eqCorner_same.call ?_; conv => whnf)
    | (refine c_eqCorner_same.quiet ?_; conv => whnf)
    | (refine draw_auto (by decide +kernel) ?_; conv => whnf)
    | (refine draw_asg (by decide +kernel) ?_; conv => whnf)
    | (refine draw_st (by decide +kernel) ?_; conv => whnf)
    | (refine draw_call (by decide +kernel) ?_; conv => whnf)
    | (refine enter_same (loop_n 12 ?_); conv => whnf)
    | (refine next_same ?_; conv => whnf)
    | (refine mapK_row (by assumption) ?_; conv => whnf)
    | (refine mapK_plain (Plain.of rfl) ?_; conv => whnf)
    | (refine mapK_lit ?_; conv => whnf)
    | (refine br_split (fun _ => ?_) (fun _ => ?_) <;> conv => whnf)
    | exact (rfl : (_ : Value) = _)
    | (simp only [*]; exact (rfl : (_ : Value) = _))
    | (simp [*]; done))

theorem p_impl_SumOfCorners_none {a b c d e f g i m : Int}  (h : isCornF a b c d = true) (k : isCornF e f g i = true) (hm : isCoordF m = true) (h2 : bigF a b c d = false) (k2 : bigF e f g i = false) (hl : (sumL (longL (expL (sineF a b c d) (cosF a b c d))) (longL (expL (sineF e f g i) (cosF e f g i))) m).length ≤ 60) (hg : ofGo (sumL (longL (expL (sineF a b c d) (cosF a b c d))) (longL (expL (sineF e f g i) (cosF e f g i))) m).reverse 1 0 = none) : Pure Try.prog n_impl_SumOfCorners [q4 a b c d, q4 e f g i, ii m] (t2 (q4 0 0 0 0) (ii 3)) := pure_ofX rfl rfl (c_impl_SumOfCorners_none h k hm h2 k2 hl hg)

theorem p_spec_SumOfCorners_none {a b c d e f g i m : Int}  (h : isCornF a b c d = true) (k : isCornF e f g i = true) (hm : isCoordF m = true) (h2 : bigF a b c d = false) (k2 : bigF e f g i = false) (hl : (sumL (longL (expL (sineF a b c d) (cosF a b c d))) (longL (expL (sineF e f g i) (cosF e f g i))) m).length ≤ 60) (hg : ofGo (sumL (longL (expL (sineF a b c d) (cosF a b c d))) (longL (expL (sineF e f g i) (cosF e f g i))) m).reverse 1 0 = none) : Pure Try.prog n_spec_SumOfCorners [q4 a b c d, q4 e f g i, ii m] (t2 (q4 0 0 0 0) (ii 3)) := pure_ofX rfl rfl (c_spec_SumOfCorners_none h k hm h2 k2 hl hg)

theorem c_law_SumOfCorners_none {a b c d e f g i m : Int}  (h : isCornF a b c d = true) (k : isCornF e f g i = true) (hm : isCoordF m = true) (h2 : bigF a b c d = false) (k2 : bigF e f g i = false) (hl : (sumL (longL (expL (sineF a b c d) (cosF a b c d))) (longL (expL (sineF e f g i) (cosF e f g i))) m).length ≤ 60) (hg : ofGo (sumL (longL (expL (sineF a b c d) (cosF a b c d))) (longL (expL (sineF e f g i) (cosF e f g i))) m).reverse 1 0 = none) : Pure Try.prog n_laws_FnExactSumOfCorners [q4 a b c d, q4 e f g i, ii m] (bb true) := by
  refine pure_of good fn_laws_FnExactSumOfCorners rfl rfl ?_
  conv => whnf
  all_goals (repeat' first
    | (refine (p_impl_SumOfCorners_none h k hm h2 k2 hl hg).quiet ?_; conv => whnf)
    | (refine (p_impl_SumOfCorners_none h k hm h2 k2 hl hg).call ?_; conv => whnf)
    | (refine (p_spec_SumOfCorners_none h k hm h2 k2 hl hg).quiet ?_; conv => whnf)
    | (refine (p_spec_SumOfCorners_none h k hm h2 k2 hl hg).call ?_; conv => whnf)
    | (refine br_true ?_ ?_; (focus (simp; done)); conv => whnf)
    | (refine br_false ?_ ?_; (focus (simp; done)); conv => whnf)
    | (refine br_false (decide_eq_false (by omega)) ?_; conv => whnf)
    | (refine draw_call (by decide +kernel) ?_; conv => whnf)
    | (refine StoreK.mk rfl ?_; conv => whnf)
    | exact join_same
    | exact (by assumption : (_ : Bool) = (_ : Bool))
    | (refine br_true (by assumption) ?_; conv => whnf)
    | (refine br_false (by assumption) ?_; conv => whnf)
    | (refine br_not ?_; conv => whnf)
    | (refine br_code ?_; conv => whnf)
    | (with_reducible refine br_and ?_; conv => whnf)
    | (with_reducible refine br_or ?_; conv => whnf)
    | (refine br_eq2 ?_; conv => whnf)
    | (refine c_laws_toCorner.call ?_; conv => whnf)
    | (refine c_laws_toCorner.quiet ?_; conv => whnf)
    | (refine c_eqCorner_same.call ?_; conv => whnf)
    | (refine c_eqCorner_same.quiet ?_; conv => whnf)
    | (refine draw_auto (by decide +kernel) ?_; conv => whnf)
    | (refine draw_asg (by decide +kernel) ?_; conv => whnf)
    | (refine draw_st (by decide +kernel) ?_; conv => whnf)
    | (refine draw_call (by decide +kernel) ?_; conv => whnf)
    | (refine enter_same (loop_n 12 ?_); conv => whnf)
    | (refine next_same ?_; conv => whnf)
    | (refine mapK_row (by assumption) ?_; conv => whnf)
    | (refine mapK_plain (Plain.of rfl) ?_; conv => whnf)
    | (refine mapK_lit ?_; conv => whnf)
    | (refine br_split (fun _ => ?_) (fun _ => ?_) <;> conv => whnf)
    | exact (rfl : (_ : Value) = _)
    | (simp only [*]; exact (rfl : (_ : Value) = _))
    | (simp [*]; done))

theorem p_impl_SumOfCorners_zero {a b c d e f g i m : Int} {p q : Int} (h : isCornF a b c d = true) (k : isCornF e f g i = true) (hm : isCoordF m = true) (h2 : bigF a b c d = false) (k2 : bigF e f g i = false) (hl : (sumL (longL (expL (sineF a b c d) (cosF a b c d))) (longL (expL (sineF e f g i) (cosF e f g i))) m).length ≤ 60) (hg : ofGo (sumL (longL (expL (sineF a b c d) (cosF a b c d))) (longL (expL (sineF e f g i) (cosF e f g i))) m).reverse 1 0 = some (p, q)) (hp : p = 0) : Pure Try.prog n_impl_SumOfCorners [q4 a b c d, q4 e f g i, ii m] (t2 (q4 0 0 0 0) (ii 5)) := pure_ofX rfl rfl (c_impl_SumOfCorners_zero h k hm h2 k2 hl hg hp)

theorem p_spec_SumOfCorners_zero {a b c d e f g i m : Int} {p q : Int} (h : isCornF a b c d = true) (k : isCornF e f g i = true) (hm : isCoordF m = true) (h2 : bigF a b c d = false) (k2 : bigF e f g i = false) (hl : (sumL (longL (expL (sineF a b c d) (cosF a b c d))) (longL (expL (sineF e f g i) (cosF e f g i))) m).length ≤ 60) (hg : ofGo (sumL (longL (expL (sineF a b c d) (cosF a b c d))) (longL (expL (sineF e f g i) (cosF e f g i))) m).reverse 1 0 = some (p, q)) (hp : p = 0) : Pure Try.prog n_spec_SumOfCorners [q4 a b c d, q4 e f g i, ii m] (t2 (q4 0 0 0 0) (ii 5)) := pure_ofX rfl rfl (c_spec_SumOfCorners_zero h k hm h2 k2 hl hg hp)

theorem c_law_SumOfCorners_zero {a b c d e f g i m : Int} {p q : Int} (h : isCornF a b c d = true) (k : isCornF e f g i = true) (hm : isCoordF m = true) (h2 : bigF a b c d = false) (k2 : bigF e f g i = false) (hl : (sumL (longL (expL (sineF a b c d) (cosF a b c d))) (longL (expL (sineF e f g i) (cosF e f g i))) m).length ≤ 60) (hg : ofGo (sumL (longL (expL (sineF a b c d) (cosF a b c d))) (longL (expL (sineF e f g i) (cosF e f g i))) m).reverse 1 0 = some (p, q)) (hp : p = 0) : Pure Try.prog n_laws_FnExactSumOfCorners [q4 a b c d, q4 e f g i, ii m] (bb true) := by
  refine pure_of good fn_laws_FnExactSumOfCorners rfl rfl ?_
  conv => whnf
  all_goals (repeat' first
    | (refine (p_impl_SumOfCorners_zero h k hm h2 k2 hl hg hp).quiet ?_; conv => whnf)
    | (refine (p_impl_SumOfCorners_zero h k hm h2 k2 hl hg hp).call ?_; conv => whnf)
    | (refine (p_spec_SumOfCorners_zero h k hm h2 k2 hl hg hp).quiet ?_; conv => whnf)
    | (refine (p_spec_SumOfCorners_zero h k hm h2 k2 hl hg hp).call ?_; conv => whnf)
    | (refine br_true ?_ ?_; (focus (simp; done)); conv => whnf)
    | (refine br_false ?_ ?_; (focus (simp; done)); conv => whnf)
    | (refine br_false (decide_eq_false (by omega)) ?_; conv => whnf)
    | (refine draw_call (by decide +kernel) ?_; conv => whnf)
    | (refine StoreK.mk rfl ?_; conv => whnf)
    | exact join_same
    | exact (by assumption : (_ : Bool) = (_ : Bool))
    | (refine br_true (by assumption) ?_; conv => whnf)
    | (refine br_false (by assumption) ?_; conv => whnf)
    | (refine br_not ?_; conv => whnf)
    | (refine br_code ?_; conv => whnf)
    | (with_reducible refine br_and ?_; conv => whnf)
    | (with_reducible refine br_or ?_; conv => whnf)
    | (refine br_eq2 ?_; conv => whnf)
    | (refine c_laws_toCorner.call ?_; conv => whnf)
    | (refine c_laws_toCorner.quiet ?_; conv => whnf)
    | (refine c_eqCorner_same.call ?_; conv => whnf)
    | (refine c_eqCorner_same.quiet ?_; conv => whnf)
    | (refine draw_auto (by decide +kernel) ?_; conv => whnf)
    | (refine draw_asg (by decide +kernel) ?_; conv => whnf)
    | (refine draw_st (by decide +kernel) ?_; conv => whnf)
    | (refine draw_call (by decide +kernel) ?_; conv => whnf)
    | (refine enter_same (loop_n 12 ?_); conv => whnf)
    | (refine next_same ?_; conv => whnf)
    | (refine mapK_row (by assumption) ?_; conv => whnf)
    | (refine mapK_plain (Plain.of rfl) ?_; conv => whnf)
    | (refine mapK_lit ?_; conv => whnf)
    | (refine br_split (fun _ => ?_) (fun _ => ?_) <;> conv => whnf)
    | exact (rfl : (_ : Value) = _)
    | (simp only [*]; exact (rfl : (_ : Value) = _))
    | (simp [*]; done))

theorem p_impl_SumOfCorners_ok {a b c d e f g i m : Int} {p q : Int} (h : isCornF a b c d = true) (k : isCornF e f g i = true) (hm : isCoordF m = true) (h2 : bigF a b c d = false) (k2 : bigF e f g i = false) (hl : (sumL (longL (expL (sineF a b c d) (cosF a b c d))) (longL (expL (sineF e f g i) (cosF e f g i))) m).length ≤ 60) (hg : ofGo (sumL (longL (expL (sineF a b c d) (cosF a b c d))) (longL (expL (sineF e f g i) (cosF e f g i))) m).reverse 1 0 = some (p, q)) (hp : ¬ p = 0) : Pure Try.prog n_impl_SumOfCorners [q4 a b c d, q4 e f g i, ii m] (t2 (q4 1 0 (cosF 1 0 q p) (sineF 1 0 q p)) (ii 0)) := pure_ofX rfl rfl (c_impl_SumOfCorners_ok h k hm h2 k2 hl hg hp)

theorem p_spec_SumOfCorners_ok {a b c d e f g i m : Int} {p q : Int} (h : isCornF a b c d = true) (k : isCornF e f g i = true) (hm : isCoordF m = true) (h2 : bigF a b c d = false) (k2 : bigF e f g i = false) (hl : (sumL (longL (expL (sineF a b c d) (cosF a b c d))) (longL (expL (sineF e f g i) (cosF e f g i))) m).length ≤ 60) (hg : ofGo (sumL (longL (expL (sineF a b c d) (cosF a b c d))) (longL (expL (sineF e f g i) (cosF e f g i))) m).reverse 1 0 = some (p, q)) (hp : ¬ p = 0) : Pure Try.prog n_spec_SumOfCorners [q4 a b c d, q4 e f g i, ii m] (t2 (q4 1 0 (cosF 1 0 q p) (sineF 1 0 q p)) (ii 0)) := pure_ofX rfl rfl (c_spec_SumOfCorners_ok h k hm h2 k2 hl hg hp)

theorem c_law_SumOfCorners_ok {a b c d e f g i m : Int} {p q : Int} (h : isCornF a b c d = true) (k : isCornF e f g i = true) (hm : isCoordF m = true) (h2 : bigF a b c d = false) (k2 : bigF e f g i = false) (hl : (sumL (longL (expL (sineF a b c d) (cosF a b c d))) (longL (expL (sineF e f g i) (cosF e f g i))) m).length ≤ 60) (hg : ofGo (sumL (longL (expL (sineF a b c d) (cosF a b c d))) (longL (expL (sineF e f g i) (cosF e f g i))) m).reverse 1 0 = some (p, q)) (hp : ¬ p = 0) : Pure Try.prog n_laws_FnExactSumOfCorners [q4 a b c d, q4 e f g i, ii m] (bb true) := by
  refine pure_of good fn_laws_FnExactSumOfCorners rfl rfl ?_
  conv => whnf
  all_goals (repeat' first
    | (refine (p_impl_SumOfCorners_ok h k hm h2 k2 hl hg hp).quiet ?_; conv => whnf)
    | (refine (p_impl_SumOfCorners_ok h k hm h2 k2 hl hg hp).call ?_; conv => whnf)
    | (refine (p_spec_SumOfCorners_ok h k hm h2 k2 hl hg hp).quiet ?_; conv => whnf)
    | (refine (p_spec_SumOfCorners_ok h k hm h2 k2 hl hg hp).call ?_; conv => whnf)
    | (refine br_true ?_ ?_; (focus (simp; done)); conv => whnf)
    | (refine br_false ?_ ?_; (focus (simp; done)); conv => whnf)
    | (refine br_false (decide_eq_false (by omega)) ?_; conv => whnf)
    | (refine draw_call (by decide +kernel) ?_; conv => whnf)
    | (refine StoreK.mk rfl ?_; conv => whnf)
    | exact join_same
    | exact (by assumption : (_ : Bool) = (_ : Bool))
    | (refine br_true (by assumption) ?_; conv => whnf)
    | (refine br_false (by assumption) ?_; conv => whnf)
    | (refine br_not ?_; conv => whnf)
    | (refine br_code ?_; conv => whnf)
    | (with_reducible refine br_and ?_; conv => whnf)
    | (with_reducible refine br_or ?_; conv => whnf)
    | (refine br_eq2 ?_; conv => whnf)
    | (refine c_laws_toCorner.call ?_; conv => whnf)
    | (refine c_laws_toCorner.quiet ?_; conv => whnf)
    | (refine c_eqCorner_same.call ?_; conv => whnf)
    | (refine c_eqCorner_same.quiet ?_; conv => whnf)
    | (refine draw_auto (by decide +kernel) ?_; conv => whnf)
    | (refine draw_asg (by decide +kernel) ?_; conv => whnf)
    | (refine draw_st (by decide +kernel) ?_; conv => whnf)
    | (refine draw_call (by decide +kernel) ?_; conv => whnf)
    | (refine enter_same (loop_n 12 ?_); conv => whnf)
    | (refine next_same ?_; conv => whnf)
    | (refine mapK_row (by assumption) ?_; conv => whnf)
    | (refine mapK_plain (Plain.of rfl) ?_; conv => whnf)
    | (refine mapK_lit ?_; conv => whnf)
    | (refine br_split (fun _ => ?_) (fun _ => ?_) <;> conv => whnf)
    | exact (rfl : (_ : Value) = _)
    | (simp only [*]; exact (rfl : (_ : Value) = _))
    | (simp [*]; done))

theorem c_laws_FnExactSumOfCorners {a b c d e f g i m : Int} : Pure Try.prog n_laws_FnExactSumOfCorners [q4 a b c d, q4 e f g i, ii m] (bb true) := by
  cases hk : (isCornF a b c d && isCornF e f g i)
  · exact c_law_SumOfCorners_bad hk
  · rw [Bool.and_eq_true] at hk
    obtain ⟨h, k⟩ := hk
    cases hb : (bigF a b c d || bigF e f g i)
    · rw [Bool.or_eq_false_iff] at hb
      obtain ⟨h2, k2⟩ := hb
      cases hm : isCoordF m
      · exact c_law_SumOfCorners_rng h k h2 k2 hm
      · by_cases hl : (sumL (longL (expL (sineF a b c d) (cosF a b c d))) (longL (expL (sineF e f g i) (cosF e f g i))) m).length ≤ 60
        · cases hg : ofGo (sumL (longL (expL (sineF a b c d) (cosF a b c d))) (longL (expL (sineF e f g i) (cosF e f g i))) m).reverse 1 0 with
          | none => exact c_law_SumOfCorners_none h k hm h2 k2 hl hg
          | some s =>
            obtain ⟨p, q⟩ := s
            by_cases hp : p = 0
            · exact c_law_SumOfCorners_zero h k hm h2 k2 hl hg hp
            · exact c_law_SumOfCorners_ok h k hm h2 k2 hl hg hp
        · exact c_law_SumOfCorners_long h k hm h2 k2 hl
    · cases hm : isCoordF m
      · exact c_law_SumOfCorners_rnh h k hb hm
      · exact c_law_SumOfCorners_huge h k hm hb

end Go.Proofs.Ytlkbfpklhncfbaa
end

section
/-
  Corners: cosines are told by congruences; unimodular matrices keep them. The plain law. Conditions: none.
-/
set_option linter.unusedVariables false
set_option linter.unusedSimpArgs false
namespace Go.Ev

/-- The sine divides what is left. -/
theorem cos_dvd {a b c d : Int} (h : isCornF a b c d = true) : sineF a b c d ∣ c - cosF a b c d * a ∧ sineF a b c d ∣ d - cosF a b c d * b := by
  have h0 := isCornF_iff.1 h
  obtain ⟨h1, h2, h3, h4, h5⟩ := h0
  have hm := mate_det h1 h3
  have hs := sine_corn h
  have hd := (det_pt h1 h2).1
  have ht := (det_pt h2 (mate_pt h1)).1
  have hsd : sineF a b c d ∣ a * d - b * c := by
    rw [hs.2.2, ← hd]
    exact Int.natAbs_dvd.2 (Int.dvd_refl _)
  have e1 : c - twistF a b c d * a = mateX a b * (a * d - b * c) := by
    unfold twistF; rw [ht]
    have : c = c * (a * mateY a b - b * mateX a b) := by rw [hm, Int.mul_one]
    generalize mateX a b = X at *
    generalize mateY a b = Y at *
    grind
  have e2 : d - twistF a b c d * b = mateY a b * (a * d - b * c) := by
    unfold twistF; rw [ht]
    have : d = d * (a * mateY a b - b * mateX a b) := by rw [hm, Int.mul_one]
    generalize mateX a b = X at *
    generalize mateY a b = Y at *
    grind
  have hc : sineF a b c d ∣ twistF a b c d - cosF a b c d := by
    have h6 := Int.emod_add_mul_ediv (twistF a b c d) (sineF a b c d)
    unfold cosF
    split
    · exact ⟨twistF a b c d / sineF a b c d - 1, by rw [Int.mul_sub, Int.mul_one]; omega⟩
    · exact ⟨twistF a b c d / sineF a b c d, by omega⟩
  generalize cosF a b c d = k at *
  generalize twistF a b c d = t at *
  generalize sineF a b c d = s at *
  refine ⟨?_, ?_⟩
  · have : c - k * a = (c - t * a) + (t - k) * a := by grind
    rw [this, e1]
    exact Int.dvd_add (Int.dvd_mul_of_dvd_right hsd) (Int.dvd_mul_of_dvd_left hc)
  · have : d - k * b = (d - t * b) + (t - k) * b := by grind
    rw [this, e2]
    exact Int.dvd_add (Int.dvd_mul_of_dvd_right hsd) (Int.dvd_mul_of_dvd_left hc)
theorem dvd_prim {s a b x y k : Int} (hm : a * y - b * x = 1) (h1 : s ∣ k * a) (h2 : s ∣ k * b) : s ∣ k := by
  have : k = (k * a) * y - (k * b) * x := by
    have : k = k * (a * y - b * x) := by rw [hm, Int.mul_one]
    grind
  rw [this]
  exact Int.dvd_sub (Int.dvd_mul_of_dvd_left h1) (Int.dvd_mul_of_dvd_left h2)
theorem dvd_small {s k : Int} (hs : 0 < s) (h1 : -s < k) (h2 : k < s) (h : s ∣ k) : k = 0 := by
  obtain ⟨q, rfl⟩ := h
  rcases Int.lt_trichotomy q 0 with hq | hq | hq
  · have : s * q ≤ s * (-1) := Int.mul_le_mul_of_nonneg_left (by omega) (by omega)
    omega
  · rw [hq]; simp
  · have : s * 1 ≤ s * q := Int.mul_le_mul_of_nonneg_left (by omega) (by omega)
    omega
theorem cos_uniq {a b c d k : Int} (h : isCornF a b c d = true) (hk1 : 1 ≤ k) (hk2 : k ≤ sineF a b c d) (h1 : sineF a b c d ∣ c - k * a) (h2 : sineF a b c d ∣ d - k * b) : cosF a b c d = k := by
  have h0 := isCornF_iff.1 h
  have hb := cos_bounds h
  have hd := cos_dvd h
  have hs := (sine_corn h).1
  have hm := mate_det h0.1 h0.2.2.1
  generalize cosF a b c d = q at *
  generalize sineF a b c d = s at *
  have e1 : s ∣ (q - k) * a := by
    have := Int.dvd_sub h1 hd.1
    have e : c - k * a - (c - q * a) = (q - k) * a := by grind
    rwa [e] at this
  have e2 : s ∣ (q - k) * b := by
    have := Int.dvd_sub h2 hd.2
    have e : d - k * b - (d - q * b) = (q - k) * b := by grind
    rwa [e] at this
  have := dvd_small hs (by omega) (by omega) (dvd_prim hm e1 e2)
  omega
theorem sine_swap {a b c d : Int} (h : isCornF a b c d = true) : sineF c d a b = sineF a b c d := by
  have h0 := isCornF_iff.1 h
  rw [(sine_corn h).2.2, (sine_corn (corn_swap h)).2.2, (det_pt h0.1 h0.2.1).1, (det_pt h0.2.1 h0.1).1]
  have : c * b - d * a = -(a * d - b * c) := by grind
  rw [this, Int.natAbs_neg]
theorem sine_adj {a b c d : Int} (h : isCornF a b c d = true) : sineF c d (w64 (0 - a)) (w64 (0 - b)) = sineF a b c d := by
  have h0 := isCornF_iff.1 h
  obtain ⟨e1, e2, e3⟩ := neg_pt h0.1
  have h1 := corn_adj h
  rw [e1, e2] at h1 ⊢
  have h2 := isCornF_iff.1 h1
  rw [(sine_corn h).2.2, (sine_corn h1).2.2, (det_pt h0.1 h0.2.1).1, (det_pt h0.2.1 e3).1]
  have : c * -b - d * -a = a * d - b * c := by grind
  rw [this]
/-- The cosine times the other one leaves 1. -/
theorem cos_cos {a b c d : Int} (h : isCornF a b c d = true) : sineF a b c d ∣ 1 - cosF a b c d * cosF c d a b := by
  have h0 := isCornF_iff.1 h
  have hd := cos_dvd h
  have hd2 := cos_dvd (corn_swap h)
  rw [sine_swap h] at hd2
  have hm := mate_det h0.1 h0.2.2.1
  generalize cosF a b c d = k at *
  generalize cosF c d a b = q at *
  generalize sineF a b c d = s at *
  refine dvd_prim hm ?_ ?_
  · have : (1 - k * q) * a = (a - q * c) + q * (c - k * a) := by grind
    rw [this]
    exact Int.dvd_add hd2.1 (Int.dvd_mul_of_dvd_right hd.1)
  · have : (1 - k * q) * b = (b - q * d) + q * (d - k * b) := by grind
    rw [this]
    exact Int.dvd_add hd2.2 (Int.dvd_mul_of_dvd_right hd.2)
theorem mod_of_dvd {s x y : Int} (hs : 0 < s) (h : s ∣ y - x) : x % s = y % s := by
  obtain ⟨q, hq⟩ := h
  have : y = x + s * q := by omega
  rw [this, Int.add_mul_emod_self_left]

/-! ### What the functions answer -/
section
variable (a b c d : Int)
def coE : Int := limF (isCornF a b c d) (bigF a b c d)
def coV : Int := selF (isCornF a b c d) (selF (bigF a b c d) 0 (cosF a b c d)) 0
def siV : Int := selF (isCornF a b c d) (selF (bigF a b c d) 0 (sineF a b c d)) 0
def trE : Int := codeF (isCornF a b c d)
def tp0 : Int := selF (isCornF a b c d) c 0
def tp1 : Int := selF (isCornF a b c d) d 0
def tp2 : Int := selF (isCornF a b c d) a 0
def tp3 : Int := selF (isCornF a b c d) b 0
def ad2 : Int := selF (isCornF a b c d) (w64 (0 - a)) 0
def ad3 : Int := selF (isCornF a b c d) (w64 (0 - b)) 0
def riV : Bool := isCornF a b c d && (sameF a b c d c d a b && sameF a b c d c d (w64 (0 - a)) (w64 (0 - b)))
end
def eqE (a b c d e f g i : Int) : Int := codeF (isCornF a b c d && isCornF e f g i)
def eqV (a b c d e f g i : Int) : Bool := (isCornF a b c d && isCornF e f g i) && sameF a b c d e f g i
theorem co_ok {a b c d : Int} (h : decide (coE a b c d = 0) = true) : isCornF a b c d = true ∧ bigF a b c d = false := by
  have h := of_decide_eq_true h
  unfold coE limF at h
  cases h1 : isCornF a b c d <;> cases h2 : bigF a b c d <;> rw [h1] at h <;> (try rw [h2] at h) <;> first | (cases h; done) | exact ⟨rfl, rfl⟩
theorem co_lt {a b c d : Int} (h : decide (coE a b c d = 0) = true) : decide (coV a b c d < 1) = false := by
  obtain ⟨h1, h2⟩ := co_ok h
  have := cos_bounds h1
  unfold coV; rw [h1, h2]; exact decide_eq_false (by simp only [selF]; omega)
theorem co_gt {a b c d : Int} (h : decide (coE a b c d = 0) = true) : decide (coV a b c d > siV a b c d) = false := by
  obtain ⟨h1, h2⟩ := co_ok h
  have := cos_bounds h1
  unfold coV siV; rw [h1, h2]; exact decide_eq_false (by simp only [selF]; omega)
theorem si_nz {a b c d : Int} (h : decide (coE a b c d = 0) = true) : decide (siV a b c d = 0) = false := by
  obtain ⟨h1, h2⟩ := co_ok h
  have := sine_corn h1
  unfold siV; rw [h1, h2]; exact decide_eq_false (by simp only [selF]; omega)
theorem tr_eq {a b c d : Int} (h : isCornF a b c d = true) : tp0 a b c d = c ∧ tp1 a b c d = d ∧ tp2 a b c d = a ∧ tp3 a b c d = b ∧ ad2 a b c d = w64 (0 - a) ∧ ad3 a b c d = w64 (0 - b) := by
  unfold tp0 tp1 tp2 tp3 ad2 ad3; rw [h]; exact ⟨rfl, rfl, rfl, rfl, rfl, rfl⟩
theorem tr_co {a b c d : Int} (h : decide (coE a b c d = 0) = true) : decide (coE (tp0 a b c d) (tp1 a b c d) (tp2 a b c d) (tp3 a b c d) = 0) = true := by
  obtain ⟨h1, h2⟩ := co_ok h
  obtain ⟨e0, e1, e2, e3, _, _⟩ := tr_eq h1
  rw [e0, e1, e2, e3]
  unfold coE
  rw [corn_swap h1, show bigF c d a b = false by unfold bigF at *; rw [sine_swap h1]; exact h2]
  rfl
theorem ad_co {a b c d : Int} (h : decide (coE a b c d = 0) = true) : decide (coE (tp0 a b c d) (tp1 a b c d) (ad2 a b c d) (ad3 a b c d) = 0) = true := by
  obtain ⟨h1, h2⟩ := co_ok h
  obtain ⟨e0, e1, _, _, e2, e3⟩ := tr_eq h1
  rw [e0, e1, e2, e3]
  unfold coE
  rw [corn_adj h1, show bigF c d (w64 (0 - a)) (w64 (0 - b)) = false by unfold bigF at *; rw [sine_adj h1]; exact h2]
  rfl
theorem ad_si {a b c d : Int} (h : decide (coE a b c d = 0) = true) : decide (siV (tp0 a b c d) (tp1 a b c d) (ad2 a b c d) (ad3 a b c d) = siV a b c d) = true := by
  obtain ⟨h1, h2⟩ := co_ok h
  obtain ⟨e0, e1, _, _, e2, e3⟩ := tr_eq h1
  rw [e0, e1, e2, e3]
  unfold siV
  rw [h1, h2, corn_adj h1, show bigF c d (w64 (0 - a)) (w64 (0 - b)) = false by unfold bigF at *; rw [sine_adj h1]; exact h2, sine_adj h1]
  exact decide_eq_true rfl
theorem co_mod {a b c d : Int} (h : decide (coE a b c d = 0) = true) :
    decide ((w64 (coV a b c d * coV (tp0 a b c d) (tp1 a b c d) (tp2 a b c d) (tp3 a b c d))).tmod (siV a b c d) = (1 : Int).tmod (siV a b c d)) = true := by
  obtain ⟨h1, h2⟩ := co_ok h
  obtain ⟨e0, e1, e2, e3, _, _⟩ := tr_eq h1
  have hb := cos_bounds h1
  have hb2 := cos_bounds (corn_swap h1)
  have hg : bigF c d a b = false := by unfold bigF at *; rw [sine_swap h1]; exact h2
  rw [sine_swap h1] at hb2
  have hs := (sine_corn h1).1
  have hs2 : sineF a b c d ≤ 1000000 := by unfold bigF at h2; have := of_decide_eq_false h2; omega
  have hd := cos_cos h1
  refine decide_eq_true ?_
  rw [e0, e1, e2, e3]
  unfold coV siV
  rw [h1, h2, corn_swap h1, hg]
  simp only [selF]
  have hm := mul_abs (x := cosF a b c d) (y := cosF c d a b) (m := 1000000) (n := 1000000) (by omega) (by omega) (by omega) (by omega) (by omega)
  have h0 : 0 ≤ cosF a b c d * cosF c d a b := Int.mul_nonneg (by omega) (by omega)
  rw [w64_in (by omega) (by omega), tmod_pos h0, tmod_pos (by omega)]
  exact mod_of_dvd hs hd

/-! ### Moved corners -/
section
variable (a b c d e f g i : Int)
def mvOk : Bool := (isPtF a b && isPtF c d) && isCornF e f g i
def mvPt : Bool := isPtF (apF a b e f) (apF c d e f) && isPtF (apF a b g i) (apF c d g i)
def mvE : Int := selF (mvOk a b c d e f g i) (selF (nearF a b c d) (selF (mvPt a b c d e f g i) 0 3) 5) 1
def mvS (x : Int) : Int := selF (mvOk a b c d e f g i) (selF (nearF a b c d) (selF (mvPt a b c d e f g i) x 0) 0) 0
def mv0 : Int := mvS a b c d e f g i (apF a b e f)
def mv1 : Int := mvS a b c d e f g i (apF c d e f)
def mv2 : Int := mvS a b c d e f g i (apF a b g i)
def mv3 : Int := mvS a b c d e f g i (apF c d g i)
end
theorem mv_no {a b c d e f g i : Int} (h : decide (mvE a b c d e f g i = 0) = false) : mv0 a b c d e f g i = 0 ∧ mv1 a b c d e f g i = 0 ∧ mv2 a b c d e f g i = 0 ∧ mv3 a b c d e f g i = 0 := by
  have h := of_decide_eq_false h
  unfold mv0 mv1 mv2 mv3 mvS mvE at *
  cases h1 : mvOk a b c d e f g i
  · exact ⟨rfl, rfl, rfl, rfl⟩
  cases h2 : nearF a b c d
  · exact ⟨rfl, rfl, rfl, rfl⟩
  cases h3 : mvPt a b c d e f g i
  · exact ⟨rfl, rfl, rfl, rfl⟩
  · rw [h1, h2, h3] at h; exact absurd rfl h
theorem eqc4 {a b c d : Int} : eqCells #[Value.int .i64 a, .int .i64 b, .int .i64 c, .int .i64 d].toList #[Value.int .i64 a, .int .i64 b, .int .i64 c, .int .i64 d].toList = true := by simp [eqCells]
theorem mv_cells {a b c d e f g i : Int} (h : decide (mvE a b c d e f g i = 0) = false) :
    eqCells [.int .i64 (mv0 a b c d e f g i), .int .i64 (mv1 a b c d e f g i), .int .i64 (mv2 a b c d e f g i), .int .i64 (mv3 a b c d e f g i)] [.int .i64 0, .int .i64 0, .int .i64 0, .int .i64 0] = true := by
  obtain ⟨h0, h1, h2, h3⟩ := mv_no h
  rw [h0, h1, h2, h3]; rfl
theorem ap_eq {a b e f : Int} (h1 : isPtF a b = true) (h2 : isPtF e f = true) : apF a b e f = a * e + b * f := by
  rw [isPtF_iff] at h1 h2
  have h3 := mul_abs (x := a) (y := e) (m := 1000000) (n := 1000000) (by omega) (by omega) (by omega) (by omega) (by omega)
  have h4 := mul_abs (x := b) (y := f) (m := 1000000) (n := 1000000) (by omega) (by omega) (by omega) (by omega) (by omega)
  unfold apF
  rw [w64_in (n := a * e) (by omega) (by omega), w64_in (n := b * f) (by omega) (by omega), w64_in (by omega) (by omega)]
theorem unit_sq {D : Int} (h : D = 1 ∨ D = -1) : D * D = 1 := by rcases h with rfl | rfl <;> rfl
theorem prim_of {x y u v : Int} (hp : isPtF x y = true) (h : u * x + v * y = 1) : primF x y = true := by
  rw [isPtF_iff] at hp
  unfold primF
  rw [gcdF_eq (by omega) (by omega)]
  have h1 : ((Int.gcd x y : Nat) : Int) ∣ 1 := by
    rw [← h]
    exact Int.dvd_add (Int.dvd_mul_of_dvd_right (Int.gcd_dvd_left ..)) (Int.dvd_mul_of_dvd_right (Int.gcd_dvd_right ..))
  have h2 : Int.gcd x y ∣ 1 := by exact_mod_cast h1
  have := Nat.dvd_one.1 h2
  rw [this]; rfl
theorem ap_prim {a b c d e f : Int} (hD : a * d - b * c = 1 ∨ a * d - b * c = -1) (h2 : isPtF e f = true) (h3 : primF e f = true) (hp : isPtF (a * e + b * f) (c * e + d * f) = true) :
    primF (a * e + b * f) (c * e + d * f) = true := by
  have hm := mate_det h2 h3
  have hq := unit_sq hD
  generalize mateX e f = X at *
  generalize mateY e f = Y at *
  refine prim_of (u := (a * d - b * c) * (d * Y + c * X)) (v := (a * d - b * c) * (-(b * Y) - a * X)) hp ?_
  have : (a * d - b * c) * (d * Y + c * X) * (a * e + b * f) + (a * d - b * c) * (-(b * Y) - a * X) * (c * e + d * f) = ((a * d - b * c) * (a * d - b * c)) * (e * Y - f * X) := by grind
  rw [this, hq, hm]; rfl
theorem mv_same {a b c d e f g i : Int} (h : decide (mvE a b c d e f g i = 0) = true) :
    decide (eqE e f g i (mv0 a b c d e f g i) (mv1 a b c d e f g i) (mv2 a b c d e f g i) (mv3 a b c d e f g i) = 0) = true ∧ eqV e f g i (mv0 a b c d e f g i) (mv1 a b c d e f g i) (mv2 a b c d e f g i) (mv3 a b c d e f g i) = true := by
  suffices hh : eqE e f g i (mv0 a b c d e f g i) (mv1 a b c d e f g i) (mv2 a b c d e f g i) (mv3 a b c d e f g i) = 0 ∧ eqV e f g i (mv0 a b c d e f g i) (mv1 a b c d e f g i) (mv2 a b c d e f g i) (mv3 a b c d e f g i) = true from ⟨decide_eq_true hh.1, hh.2⟩
  have h := of_decide_eq_true h
  unfold mv0 mv1 mv2 mv3 mvS mvE at *
  cases h1 : mvOk a b c d e f g i
  · rw [h1] at h; cases h
  cases h2 : nearF a b c d
  · rw [h1, h2] at h; cases h
  cases h3 : mvPt a b c d e f g i
  · rw [h1, h2, h3] at h; cases h
  simp only [selF]
  simp only [mvOk, Bool.and_eq_true] at h1
  simp only [mvPt, Bool.and_eq_true] at h3
  obtain ⟨⟨ha, hc⟩, hx⟩ := h1
  have h0 := isCornF_iff.1 hx
  obtain ⟨he, hg, pe, pg, hn⟩ := h0
  rw [ap_eq ha he, ap_eq hc he, ap_eq ha hg, ap_eq hc hg] at h3 ⊢
  obtain ⟨q1, q2⟩ := h3
  have hD : a * d - b * c = 1 ∨ a * d - b * c = -1 := by
    rw [near_alt] at h2
    simp only [Bool.or_eq_true, decide_eq_true_eq] at h2
    rwa [(det_pt ha hc).1] at h2
  have ed := (det_pt q1 q2).1
  have e0 := (det_pt he hg).1
  have ex : (a * e + b * f) * (c * g + d * i) - (c * e + d * f) * (a * g + b * i) = (a * d - b * c) * (e * i - f * g) := by grind
  have hk : isCornF (a * e + b * f) (c * e + d * f) (a * g + b * i) (c * g + d * i) = true := by
    rw [isCornF_iff]
    refine ⟨q1, q2, ap_prim hD he pe q1, ap_prim hD hg pg q2, ?_⟩
    rw [ed, ex]
    rw [e0] at hn
    rcases hD with hD | hD <;> rw [hD] <;> omega
  have hs : sineF (a * e + b * f) (c * e + d * f) (a * g + b * i) (c * g + d * i) = sineF e f g i := by
    rw [(sine_corn hk).2.2, (sine_corn hx).2.2, ed, ex, e0]
    rcases hD with hD | hD <;> rw [hD]
    · rw [Int.one_mul]
    · rw [Int.neg_mul, Int.one_mul, Int.natAbs_neg]
  have hb := cos_bounds hx
  have hd := cos_dvd hx
  have hcos : cosF (a * e + b * f) (c * e + d * f) (a * g + b * i) (c * g + d * i) = cosF e f g i := by
    refine cos_uniq hk hb.1 (by rw [hs]; exact hb.2) ?_ ?_ <;> rw [hs] <;> generalize cosF e f g i = k at * <;> generalize sineF e f g i = s at *
    · have : a * g + b * i - k * (a * e + b * f) = a * (g - k * e) + b * (i - k * f) := by grind
      rw [this]
      exact Int.dvd_add (Int.dvd_mul_of_dvd_right hd.1) (Int.dvd_mul_of_dvd_right hd.2)
    · have : c * g + d * i - k * (c * e + d * f) = c * (g - k * e) + d * (i - k * f) := by grind
      rw [this]
      exact Int.dvd_add (Int.dvd_mul_of_dvd_right hd.1) (Int.dvd_mul_of_dvd_right hd.2)
  unfold eqE eqV sameF
  rw [hx, hk, hs, hcos]
  simp [codeF]

end Go.Ev
end

section
/-
  Contracts of functions of the program (printed by a program of this work; Lean checks each).
  Conditions: as each contract states.
-/
namespace Go.Proofs.Ytlkbfpklhncfbaa
open Go.Ev Go.RowKit
set_option maxRecDepth 100000
set_option linter.unusedVariables false
set_option linter.unusedSimpArgs false

attribute [local irreducible] isCornF sineF cosF apF nearF bigF

theorem c_impl_CosineOf_all {a b c d : Int} : Pure Try.prog n_impl_CosineOf [q4 a b c d] (t2 (ii (coV a b c d)) (ii (coE a b c d))) := c_impl_CosineOf

theorem c_impl_SineOf_all {a b c d : Int} : Pure Try.prog n_impl_SineOf [q4 a b c d] (t2 (ii (siV a b c d)) (ii (coE a b c d))) := c_impl_SineOf

end Go.Proofs.Ytlkbfpklhncfbaa
end

section
/-
  Contracts of functions of the program (printed by a program of this work; Lean checks each).
  Conditions: as each contract states.
-/
namespace Go.Proofs.Ytlkbfpklhncfbaa
open Go.Ev Go.RowKit
set_option maxRecDepth 100000
set_option linter.unusedVariables false
set_option linter.unusedSimpArgs false

attribute [local irreducible] isCornF bigF detF ofGo isCoordF sineF cosF gcdF

theorem c_likeInts {xs : List Int} {sp sq : List Value} {n n2 c c2 : Nat} (h1 : Row (il xs) sp n c 1) (h2 : Row (il xs) sq n2 c2 1) (hn : n ≤ 1000000000) : CallOK Try.prog n_laws_likeInts [.slice (some ⟨0, 0, none⟩) n c, .slice (some ⟨1, 0, none⟩) n2 c2] [(il xs ++ sp, none), (il xs ++ sq, none)] (fun v m_ => v = bb true ∧ m_ = [(il xs ++ sp, none), (il xs ++ sq, none)]) := by
  obtain rfl := row_same h1 h2 (by decide); refine callOK_ofF good fn_laws_likeInts ?_
  conv => whnf
  all_goals (repeat' first
    | (refine br_true ?_ ?_; (focus (simp; done)); conv => whnf)
    | (refine br_false ?_ ?_; (focus (simp; done)); conv => whnf)
    | (refine enter_forget [] (loop_rec (fun (s : Int) => match s with | i => [.slice (some ⟨0, 0, none⟩) n c, .slice (some ⟨1, 0, none⟩) n c2, wild, wild, wild, ii i, wild, wild, wild, wild, wild, wild, wild, wild, wild, wild, wild, wild, wild, wild, wild, wild, wild, wild, wild, wild]) (fun (s : Int) => match s with | i => [(il xs ++ sp, none), (il xs ++ sq, none)]) (fun (s : Int) => match s with | i => ((n : Int) - i).toNat) (fun (s : Int) => match s with | i => 0 ≤ i ∧ i ≤ (n : Int)) (0) (by (try clear IH); (try simp only [decide_eq_true_eq, decide_eq_false_iff_not, Bool.not_eq_true, Bool.not_eq_false, Bool.not_eq_eq_eq_not, Bool.not_true, Bool.not_false] at *); omega) ?_) (tmR_rfl rfl rfl) ⟨⟨⟨_, rfl, .plain rfl rfl (by first | exact Plain.of rfl | exact Row.all (by assumption))⟩⟩, ⟨⟨_, rfl, .plain rfl rfl (by first | exact Plain.of rfl | exact Row.all (by assumption))⟩⟩, trivial⟩ rfl rfl; rintro fuel_ i hI IH; replace hI : 0 ≤ i ∧ i ≤ (n : Int) := hI; conv => whnf)
    | exact next_forget [] (IH (w64 (i + 1)) (idx_next hI (by assumption) (by omega)) (idx_mu hI (by assumption) (by omega))) (tmR_rfl rfl rfl) ⟨⟨⟨_, rfl, .plain rfl rfl (by first | exact Plain.of rfl | exact Row.all (by assumption))⟩⟩, ⟨⟨_, rfl, .plain rfl rfl (by first | exact Plain.of rfl | exact Row.all (by assumption))⟩⟩, trivial⟩ rfl rfl
    | (refine br_in (by (try clear IH); (try simp only [decide_eq_true_eq, decide_eq_false_iff_not, Bool.not_eq_true, Bool.not_eq_false, Bool.not_eq_eq_eq_not, Bool.not_true, Bool.not_false] at *); omega) (by (try clear IH); (try simp only [decide_eq_true_eq, decide_eq_false_iff_not, Bool.not_eq_true, Bool.not_eq_false, Bool.not_eq_eq_eq_not, Bool.not_true, Bool.not_false] at *); omega) ?_; conv => whnf)
    | (refine force_eq (take_il (i := (i).toNat) (by omega) (by (try clear IH); have := row_il h1; (try simp only [decide_eq_true_eq, decide_eq_false_iff_not, Bool.not_eq_true, Bool.not_eq_false, Bool.not_eq_eq_eq_not, Bool.not_true, Bool.not_false] at *); omega)) ?_; conv => whnf)
    | (refine force_eq (take_il (i := (i).toNat) (by omega) (by (try clear IH); have := row_il h2; (try simp only [decide_eq_true_eq, decide_eq_false_iff_not, Bool.not_eq_true, Bool.not_eq_false, Bool.not_eq_eq_eq_not, Bool.not_true, Bool.not_false] at *); omega)) ?_; conv => whnf)
    | exact out_forget [] ⟨rfl, rfl⟩ rfl (okB2_spec rfl) ⟨⟨⟨_, rfl, .plain rfl rfl (by first | exact Plain.of rfl | exact Row.all (by assumption))⟩⟩, ⟨⟨_, rfl, .plain rfl rfl (by first | exact Plain.of rfl | exact Row.all (by assumption))⟩⟩, trivial⟩ rfl rfl
    | (refine StoreK.mk rfl ?_; conv => whnf)
    | exact join_same
    | exact (by assumption : (_ : Bool) = (_ : Bool))
    | (refine br_true (by assumption) ?_; conv => whnf)
    | (refine br_false (by assumption) ?_; conv => whnf)
    | (refine br_not ?_; conv => whnf)
    | (refine br_code ?_; conv => whnf)
    | (with_reducible refine br_and ?_; conv => whnf)
    | (with_reducible refine br_or ?_; conv => whnf)
    | (refine br_eq2 ?_; conv => whnf)
    | (refine draw_auto (by decide +kernel) ?_; conv => whnf)
    | (refine draw_asg (by decide +kernel) ?_; conv => whnf)
    | (refine draw_st (by decide +kernel) ?_; conv => whnf)
    | (refine draw_call (by decide +kernel) ?_; conv => whnf)
    | (refine enter_same (loop_n 12 ?_); conv => whnf)
    | (refine next_same ?_; conv => whnf)
    | (refine mapK_row (by assumption) ?_; conv => whnf)
    | (refine mapK_plain (Plain.of rfl) ?_; conv => whnf)
    | (refine mapK_lit ?_; conv => whnf)
    | (refine br_split (fun _ => ?_) (fun _ => ?_) <;> conv => whnf)
    | exact (rfl : (_ : Value) = _)
    | (simp only [*]; exact (rfl : (_ : Value) = _))
    | (simp [*]; done))

theorem c_likeInts_nil   : Pure Try.prog n_laws_likeInts [.slice none 0 0, .slice none 0 0] (bb true) := by
  refine pure_of good fn_laws_likeInts rfl rfl ?_
  conv => whnf
  all_goals (repeat' first
    | (refine br_true ?_ ?_; (focus (simp; done)); conv => whnf)
    | (refine br_false ?_ ?_; (focus (simp; done)); conv => whnf)
    | (refine StoreK.mk rfl ?_; conv => whnf)
    | exact join_same
    | exact (by assumption : (_ : Bool) = (_ : Bool))
    | (refine br_true (by assumption) ?_; conv => whnf)
    | (refine br_false (by assumption) ?_; conv => whnf)
    | (refine br_not ?_; conv => whnf)
    | (refine br_code ?_; conv => whnf)
    | (with_reducible refine br_and ?_; conv => whnf)
    | (with_reducible refine br_or ?_; conv => whnf)
    | (refine br_eq2 ?_; conv => whnf)
    | (refine draw_auto (by decide +kernel) ?_; conv => whnf)
    | (refine draw_asg (by decide +kernel) ?_; conv => whnf)
    | (refine draw_st (by decide +kernel) ?_; conv => whnf)
    | (refine draw_call (by decide +kernel) ?_; conv => whnf)
    | (refine enter_same (loop_n 12 ?_); conv => whnf)
    | (refine next_same ?_; conv => whnf)
    | (refine mapK_row (by assumption) ?_; conv => whnf)
    | (refine mapK_plain (Plain.of rfl) ?_; conv => whnf)
    | (refine mapK_lit ?_; conv => whnf)
    | (refine br_split (fun _ => ?_) (fun _ => ?_) <;> conv => whnf)
    | exact (rfl : (_ : Value) = _)
    | (simp only [*]; exact (rfl : (_ : Value) = _))
    | (simp [*]; done))

theorem c_impl_CornerOfTangent {s c : Int}  : Pure Try.prog n_impl_CornerOfTangent [ii s, ii c] (t2 (q4 (selF (okTan s c) 1 0) 0 (selF (okTan s c) c 0) (selF (okTan s c) s 0)) (ii (selF (okTan s c) 0 2))) := by
  refine pure_of good fn_impl_CornerOfTangent rfl rfl ?_
  conv => whnf
  all_goals (repeat' first
    | (refine StoreK.mk rfl ?_; conv => whnf)
    | exact join_same
    | exact (by assumption : (_ : Bool) = (_ : Bool))
    | (refine br_true (by assumption) ?_; conv => whnf)
    | (refine br_false (by assumption) ?_; conv => whnf)
    | (refine br_not ?_; conv => whnf)
    | (refine br_code ?_; conv => whnf)
    | (with_reducible refine br_and ?_; conv => whnf)
    | (with_reducible refine br_or ?_; conv => whnf)
    | (refine br_eq2 ?_; conv => whnf)
    | (refine c_impl_in.call ?_; conv => whnf)
    | (refine c_impl_in.quiet ?_; conv => whnf)
    | (refine c_impl_gcd.call ?_; conv => whnf)
    | (refine c_impl_gcd.quiet ?_; conv => whnf)
    | (refine c_impl_tangent.call ?_; conv => whnf)
    | (refine c_impl_tangent.quiet ?_; conv => whnf)
    | (refine draw_auto (by decide +kernel) ?_; conv => whnf)
    | (refine draw_asg (by decide +kernel) ?_; conv => whnf)
    | (refine draw_st (by decide +kernel) ?_; conv => whnf)
    | (refine draw_call (by decide +kernel) ?_; conv => whnf)
    | (refine enter_same (loop_n 12 ?_); conv => whnf)
    | (refine next_same ?_; conv => whnf)
    | (refine mapK_row (by assumption) ?_; conv => whnf)
    | (refine mapK_plain (Plain.of rfl) ?_; conv => whnf)
    | (refine mapK_lit ?_; conv => whnf)
    | (refine br_split (fun _ => ?_) (fun _ => ?_) <;> conv => whnf)
    | exact (rfl : (_ : Value) = _)
    | (simp only [*]; exact (rfl : (_ : Value) = _))
    | (simp [okTan, selF, *]; done))

theorem c_impl_Tan_all {s c : Int} : Pure Try.prog n_impl_CornerOfTangent [ii s, ii c] (t2 (q4 (tanT s c).1 (tanT s c).2.1 (tanT s c).2.2.1 (tanT s c).2.2.2.1) (ii (tanT s c).2.2.2.2)) := by
  have := c_impl_CornerOfTangent (s := s) (c := c)
  unfold tanT
  cases h : okTan s c
  · rw [h] at this; exact this
  · rw [h] at this; exact this
theorem c_impl_Nor_ok {a b c d : Int} (h : isCornF a b c d = true) (h2 : bigF a b c d = false) : Pure Try.prog n_impl_NormalCorner [q4 a b c d] (t2 (q4 1 0 (cosF a b c d) (sineF a b c d)) (ii 0)) := by
  have := c_impl_NormalCorner (a := a) (b := b) (c := c) (d := d)
  rw [h, h2] at this; exact this
theorem c_impl_Nor_no3 {a b c d : Int} (h : isCornF a b c d = true) (h2 : bigF a b c d = true) : Pure Try.prog n_impl_NormalCorner [q4 a b c d] (t2 (q4 0 0 0 0) (ii 3)) := by
  have := c_impl_NormalCorner (a := a) (b := b) (c := c) (d := d)
  rw [h, h2] at this; exact this
theorem c_impl_Nor_no1 {a b c d : Int} (h : isCornF a b c d = false) : Pure Try.prog n_impl_NormalCorner [q4 a b c d] (t2 (q4 0 0 0 0) (ii 1)) := by
  have := c_impl_NormalCorner (a := a) (b := b) (c := c) (d := d)
  rw [h] at this; exact this
theorem c_impl_Sum_all {a b c d e f g i m : Int} : Pure Try.prog n_impl_SumOfCorners [q4 a b c d, q4 e f g i, ii m] (t2 (q4 (sumT a b c d e f g i m).1 (sumT a b c d e f g i m).2.1 (sumT a b c d e f g i m).2.2.1 (sumT a b c d e f g i m).2.2.2.1) (ii (sumT a b c d e f g i m).2.2.2.2)) := by
  unfold sumT
  cases hk : (isCornF a b c d && isCornF e f g i)
  · exact p_impl_SumOfCorners_bad hk
  · have hk2 := hk
    rw [Bool.and_eq_true] at hk
    obtain ⟨h, k⟩ := hk
    cases hm : isCoordF m
    · cases hb : (bigF a b c d || bigF e f g i)
      · rw [Bool.or_eq_false_iff] at hb
        exact p_impl_SumOfCorners_rng h k hb.1 hb.2 hm
      · exact p_impl_SumOfCorners_rnh h k hb hm
    · cases hb : (bigF a b c d || bigF e f g i)
      · have hb0 := hb
        rw [Bool.or_eq_false_iff] at hb
        obtain ⟨h2, k2⟩ := hb
        by_cases hl : (sumL (longL (expL (sineF a b c d) (cosF a b c d))) (longL (expL (sineF e f g i) (cosF e f g i))) m).length ≤ 60
        · simp only [if_true, Bool.false_eq_true, if_false, hl]
          cases hg : ofGo (sumL (longL (expL (sineF a b c d) (cosF a b c d))) (longL (expL (sineF e f g i) (cosF e f g i))) m).reverse 1 0 with
          | none => exact p_impl_SumOfCorners_none h k hm h2 k2 hl hg
          | some r =>
            obtain ⟨p, q⟩ := r
            by_cases hp : p = 0
            · have e2 : goN (some (p, q)) = (0, 0, 0, 0, 5) := if_pos hp
              rw [e2]; exact p_impl_SumOfCorners_zero h k hm h2 k2 hl hg hp
            · have e2 : goN (some (p, q)) = (1, 0, cosF 1 0 q p, sineF 1 0 q p, 0) := if_neg hp
              rw [e2]; exact p_impl_SumOfCorners_ok h k hm h2 k2 hl hg hp
        · simp only [if_true, Bool.false_eq_true, if_false, hl]
          exact p_impl_SumOfCorners_long h k hm h2 k2 hl
      · exact p_impl_SumOfCorners_huge h k hm hb

theorem c_spec_CornerOfTangent {s c : Int}  : Pure Try.prog n_spec_CornerOfTangent [ii s, ii c] (t2 (q4 (selF (okTan s c) 1 0) 0 (selF (okTan s c) c 0) (selF (okTan s c) s 0)) (ii (selF (okTan s c) 0 2))) := by
  refine pure_of good fn_spec_CornerOfTangent rfl rfl ?_
  conv => whnf
  all_goals (repeat' first
    | (refine StoreK.mk rfl ?_; conv => whnf)
    | exact join_same
    | exact (by assumption : (_ : Bool) = (_ : Bool))
    | (refine br_true (by assumption) ?_; conv => whnf)
    | (refine br_false (by assumption) ?_; conv => whnf)
    | (refine br_not ?_; conv => whnf)
    | (refine br_code ?_; conv => whnf)
    | (with_reducible refine br_and ?_; conv => whnf)
    | (with_reducible refine br_or ?_; conv => whnf)
    | (refine br_eq2 ?_; conv => whnf)
    | (refine c_spec_l01In.call ?_; conv => whnf)
    | (refine c_spec_l01In.quiet ?_; conv => whnf)
    | (refine c_spec_l01Gcd.call ?_; conv => whnf)
    | (refine c_spec_l01Gcd.quiet ?_; conv => whnf)
    | (refine c_spec_l02Normal.call ?_; conv => whnf)
    | (refine c_spec_l02Normal.quiet ?_; conv => whnf)
    | (refine draw_auto (by decide +kernel) ?_; conv => whnf)
    | (refine draw_asg (by decide +kernel) ?_; conv => whnf)
    | (refine draw_st (by decide +kernel) ?_; conv => whnf)
    | (refine draw_call (by decide +kernel) ?_; conv => whnf)
    | (refine enter_same (loop_n 12 ?_); conv => whnf)
    | (refine next_same ?_; conv => whnf)
    | (refine mapK_row (by assumption) ?_; conv => whnf)
    | (refine mapK_plain (Plain.of rfl) ?_; conv => whnf)
    | (refine mapK_lit ?_; conv => whnf)
    | (refine br_split (fun _ => ?_) (fun _ => ?_) <;> conv => whnf)
    | exact (rfl : (_ : Value) = _)
    | (simp only [*]; exact (rfl : (_ : Value) = _))
    | (simp [okTan, selF, *]; done))

theorem c_spec_Tan_all {s c : Int} : Pure Try.prog n_spec_CornerOfTangent [ii s, ii c] (t2 (q4 (tanT s c).1 (tanT s c).2.1 (tanT s c).2.2.1 (tanT s c).2.2.2.1) (ii (tanT s c).2.2.2.2)) := by
  have := c_spec_CornerOfTangent (s := s) (c := c)
  unfold tanT
  cases h : okTan s c
  · rw [h] at this; exact this
  · rw [h] at this; exact this
theorem c_spec_Nor_ok {a b c d : Int} (h : isCornF a b c d = true) (h2 : bigF a b c d = false) : Pure Try.prog n_spec_NormalCorner [q4 a b c d] (t2 (q4 1 0 (cosF a b c d) (sineF a b c d)) (ii 0)) := by
  have := c_spec_NormalCorner (a := a) (b := b) (c := c) (d := d)
  rw [h, h2] at this; exact this
theorem c_spec_Nor_no3 {a b c d : Int} (h : isCornF a b c d = true) (h2 : bigF a b c d = true) : Pure Try.prog n_spec_NormalCorner [q4 a b c d] (t2 (q4 0 0 0 0) (ii 3)) := by
  have := c_spec_NormalCorner (a := a) (b := b) (c := c) (d := d)
  rw [h, h2] at this; exact this
theorem c_spec_Nor_no1 {a b c d : Int} (h : isCornF a b c d = false) : Pure Try.prog n_spec_NormalCorner [q4 a b c d] (t2 (q4 0 0 0 0) (ii 1)) := by
  have := c_spec_NormalCorner (a := a) (b := b) (c := c) (d := d)
  rw [h] at this; exact this
theorem c_spec_Sum_all {a b c d e f g i m : Int} : Pure Try.prog n_spec_SumOfCorners [q4 a b c d, q4 e f g i, ii m] (t2 (q4 (sumT a b c d e f g i m).1 (sumT a b c d e f g i m).2.1 (sumT a b c d e f g i m).2.2.1 (sumT a b c d e f g i m).2.2.2.1) (ii (sumT a b c d e f g i m).2.2.2.2)) := by
  unfold sumT
  cases hk : (isCornF a b c d && isCornF e f g i)
  · exact p_spec_SumOfCorners_bad hk
  · have hk2 := hk
    rw [Bool.and_eq_true] at hk
    obtain ⟨h, k⟩ := hk
    cases hm : isCoordF m
    · cases hb : (bigF a b c d || bigF e f g i)
      · rw [Bool.or_eq_false_iff] at hb
        exact p_spec_SumOfCorners_rng h k hb.1 hb.2 hm
      · exact p_spec_SumOfCorners_rnh h k hb hm
    · cases hb : (bigF a b c d || bigF e f g i)
      · have hb0 := hb
        rw [Bool.or_eq_false_iff] at hb
        obtain ⟨h2, k2⟩ := hb
        by_cases hl : (sumL (longL (expL (sineF a b c d) (cosF a b c d))) (longL (expL (sineF e f g i) (cosF e f g i))) m).length ≤ 60
        · simp only [if_true, Bool.false_eq_true, if_false, hl]
          cases hg : ofGo (sumL (longL (expL (sineF a b c d) (cosF a b c d))) (longL (expL (sineF e f g i) (cosF e f g i))) m).reverse 1 0 with
          | none => exact p_spec_SumOfCorners_none h k hm h2 k2 hl hg
          | some r =>
            obtain ⟨p, q⟩ := r
            by_cases hp : p = 0
            · have e2 : goN (some (p, q)) = (0, 0, 0, 0, 5) := if_pos hp
              rw [e2]; exact p_spec_SumOfCorners_zero h k hm h2 k2 hl hg hp
            · have e2 : goN (some (p, q)) = (1, 0, cosF 1 0 q p, sineF 1 0 q p, 0) := if_neg hp
              rw [e2]; exact p_spec_SumOfCorners_ok h k hm h2 k2 hl hg hp
        · simp only [if_true, Bool.false_eq_true, if_false, hl]
          exact p_spec_SumOfCorners_long h k hm h2 k2 hl
      · exact p_spec_SumOfCorners_huge h k hm hb

theorem c_Nor_all {a b c d : Int} : Pure Try.prog n_impl_NormalCorner [q4 a b c d] (t2 (q4 (norT a b c d).1 (norT a b c d).2.1 (norT a b c d).2.2.1 (norT a b c d).2.2.2.1) (ii (norT a b c d).2.2.2.2)) := by
  unfold norT
  cases h : isCornF a b c d
  · exact c_impl_Nor_no1 h
  · cases h2 : bigF a b c d
    · exact c_impl_Nor_ok h h2
    · exact c_impl_Nor_no3 h h2
theorem c_Nor_sum {a b c d e f g i m : Int} (h : (sumT a b c d e f g i m).2.2.2.2 = 0) : Pure Try.prog n_impl_NormalCorner [q4 (sumT a b c d e f g i m).1 (sumT a b c d e f g i m).2.1 (sumT a b c d e f g i m).2.2.1 (sumT a b c d e f g i m).2.2.2.1] (t2 (q4 (sumT a b c d e f g i m).1 (sumT a b c d e f g i m).2.1 (sumT a b c d e f g i m).2.2.1 (sumT a b c d e f g i m).2.2.2.1) (ii 0)) := by
  have e_ := sum_nor.nor h
  have := c_Nor_all (a := (sumT a b c d e f g i m).1) (b := (sumT a b c d e f g i m).2.1) (c := (sumT a b c d e f g i m).2.2.1) (d := (sumT a b c d e f g i m).2.2.2.1)
  rw [e_, h] at this
  exact this
theorem tan_is {s c : Int} (h : (tanT s c).2.2.2.2 = 0) : okTan s c = true ∧ tanT s c = (1, 0, c, s, 0) := by
  unfold tanT at h ⊢
  cases ho : okTan s c
  · rw [ho] at h; cases h
  · exact ⟨rfl, rfl⟩
theorem c_Sine_tan {s c : Int} (h : (tanT s c).2.2.2.2 = 0) : Pure Try.prog n_impl_SineOf [q4 (tanT s c).1 (tanT s c).2.1 (tanT s c).2.2.1 (tanT s c).2.2.2.1] (t2 (ii s) (ii 0)) := by
  obtain ⟨ho, e⟩ := tan_is h
  obtain ⟨n1, n2, n3, n4⟩ := (okTan_ok ho).norm
  rw [e]
  have := c_impl_SineOf (a := 1) (b := 0) (c := c) (d := s)
  rw [n1, n2, n3] at this
  exact this
theorem c_Cosine_tan {s c : Int} (h : (tanT s c).2.2.2.2 = 0) : Pure Try.prog n_impl_CosineOf [q4 (tanT s c).1 (tanT s c).2.1 (tanT s c).2.2.1 (tanT s c).2.2.2.1] (t2 (ii c) (ii 0)) := by
  obtain ⟨ho, e⟩ := tan_is h
  obtain ⟨n1, n2, n3, n4⟩ := (okTan_ok ho).norm
  rw [e]
  have := c_impl_CosineOf (a := 1) (b := 0) (c := c) (d := s)
  rw [n1, n2, n4] at this
  exact this
theorem c_List_long {a b c d : Int} {sp : List Value} {n e : Nat} (h : isCornF a b c d = true) (h2 : bigF a b c d = false) (h1 : Row (il (longL (expL (sineF a b c d) (cosF a b c d)))) sp n e 1) (hn : n ≤ 1048576) :
    CallOK Try.prog n_impl_CornerOfExpansion [.slice (some ⟨0, 0, none⟩) n e] [(il (longL (expL (sineF a b c d) (cosF a b c d))) ++ sp, none)] (fun v m_ => v = t2 (q4 1 0 (cosF a b c d) (sineF a b c d)) (ii 0) ∧ m_ = [(il (longL (expL (sineF a b c d) (cosF a b c d))) ++ sp, none)]) := by
  have e1 := back_nor h h2
  have := c_impl_CornerOfExpansion_all h1 hn
  rw [e1.1, e1.2.2] at this
  exact this
theorem long_odd {a b c d : Int} {sp : List Value} {n e : Nat} (h : isCornF a b c d = true) (h2 : bigF a b c d = false) (h1 : Row (il (longL (expL (sineF a b c d) (cosF a b c d)))) sp n e 1) : decide (((n : Nat) : Int).tmod 2 = 1) = true := by
  have := row_il h1
  exact decide_eq_true (tmod2'.2 (this ▸ (back_nor h h2).2.1))
theorem corn3 (a b c d : Int) : (isCornF a b c d = true ∧ bigF a b c d = false) ∨ (isCornF a b c d = true ∧ bigF a b c d = true) ∨ isCornF a b c d = false := by
  cases isCornF a b c d <;> cases bigF a b c d <;> simp

end Go.Proofs.Ytlkbfpklhncfbaa
end

section
/-
  Contracts of functions of the program (printed by a program of this work; Lean checks each).
  Conditions: as each contract states.
-/
namespace Go.Proofs.Ytlkbfpklhncfbaa
open Go.Ev Go.RowKit
set_option maxRecDepth 100000
set_option linter.unusedVariables false
set_option linter.unusedSimpArgs false

set_option maxHeartbeats 4000000 in
theorem c_DrawLst_L {zs : List Int} {off n c : Nat} (hz : n ≤ zs.length) (hb : ∀ z ∈ zs, IsByte z) (hn : n ≤ 4096) : CallOK Try.prog n_spec_DrawCornerOfExpansion [.slice (some ⟨0, off, none⟩) n c] [(away off (bl zs), none)] (fun v m_ => ∃ (xs : List Int) (sp_ : List Value) (nn cc : Nat), Row (il xs) sp_ nn cc 1 ∧ nn ≤ 100 ∧ v = .slice (some ⟨1, 0, none⟩) nn cc ∧ m_ = [(away off (bl zs), none), (il xs ++ sp_, some 2)]) := by
  refine callOK_ofF good fn_spec_DrawCornerOfExpansion ?_
  conv => whnf
  all_goals (repeat' first
    | (refine enter_forget [1, 2] (loop_rec (fun (s : Int × Int × Int × (List Int) × (List Value) × Nat × Nat) => match s with | (k_, o2, h2, X, S, q, e) => [.slice (some ⟨0, off, none⟩) n c, wild, .slice none 0 0, .pointer (some ⟨1, 0, none⟩), .slice (some ⟨2, 0, none⟩) q e, ii k_, wild, wild, wild, wild, wild, wild, wild, wild, wild, wild, wild, wild, wild, wild, wild, wild, wild, wild, wild, wild, wild, wild, wild, wild, wild, wild, wild, wild, wild, wild, wild, wild, wild, wild, wild, wild, wild, wild, wild, wild, wild, wild, wild, wild, wild]) (fun (s : Int × Int × Int × (List Int) × (List Value) × Nat × Nat) => match s with | (k_, o2, h2, X, S, q, e) => [(away off (bl zs), none), ([.slice (some ⟨0, off, none⟩) n c, ii o2, wv h2], some t_spec_l01Source), (il X ++ S, some 2)]) (fun (s : Int × Int × Int × (List Int) × (List Value) × Nat × Nat) => match s with | (k_, o2, h2, X, S, q, e) => k_.toNat) (fun (s : Int × Int × Int × (List Int) × (List Value) × Nat × Nat) => match s with | (k_, o2, h2, X, S, q, e) => SrcAt n o2 ∧ DcI (w64 (w64 (2 * x4_) + 1)) k_ X S q e) ((w64 (w64 (2 * x4_) + 1)), _, _, [], [], 0, 0) ⟨ha_, DcI.start (hx4_ (by omega))⟩ ?_) (tmR_rfl rfl rfl) ⟨⟨⟨_, rfl, .lit (away_conc (bl_plain _) _).symm rfl (away_ok (bl_plain _) _)⟩⟩, ⟨⟨_, rfl, .lit rfl rfl (fun v hv => okB0_spec (allL_spec rfl v hv))⟩⟩, ⟨⟨_, rfl, .plain rfl rfl Plain.nil⟩⟩, trivial⟩ rfl rfl; rintro fuel_ ⟨k_, o2, h2, X, S, q, e⟩ hI IH; replace hI : SrcAt n o2 ∧ DcI (w64 (w64 (2 * x4_) + 1)) k_ X S q e := hI; conv => whnf)
    | (refine enter_forget [1, 2] (loop_rec (fun (s : (List Int) × (List Value) × Nat × Nat) => match s with | (Y, U, q2, e2) => [.slice (some ⟨0, off, none⟩) n c, wild, .slice none 0 0, .pointer (some ⟨1, 0, none⟩), .slice (some ⟨2, 0, none⟩) q2 e2, wild, wild, wild, wild, wild, wild, wild, wild, wild, wild, wild, wild, wild, wild, wild, wild, wild, wild, wild, wild, wild, wild, wild, wild, wild, wild, wild, wild, wild, wild, wild, wild, wild, wild, wild, wild, wild, wild, wild, wild, wild, wild, wild, wild, wild, wild]) (fun (s : (List Int) × (List Value) × Nat × Nat) => match s with | (Y, U, q2, e2) => [(away off (bl zs), none), ([.slice (some ⟨0, off, none⟩) n c, ii o_, wv h_], some t_spec_l01Source), (il Y ++ U, some 2)]) (fun (s : (List Int) × (List Value) × Nat × Nat) => match s with | (Y, U, q2, e2) => 61 - q2) (fun (s : (List Int) × (List Value) × Nat × Nat) => match s with | (Y, U, q2, e2) => LsI Y U q2 e2) (X, S, q, e) ⟨hI.2.row, by have := hI.2.bd; omega⟩ ?_) (tmR_rfl rfl rfl) ⟨⟨⟨_, rfl, .lit (away_conc (bl_plain _) _).symm rfl (away_ok (bl_plain _) _)⟩⟩, ⟨⟨_, rfl, .lit rfl rfl (fun v hv => okB0_spec (allL_spec rfl v hv))⟩⟩, ⟨⟨_, rfl, .plain rfl rfl (Row.all hI.2.row)⟩⟩, trivial⟩ rfl rfl; rintro fuel_2 ⟨Y, U, q2, e2⟩ hI2 IH2; replace hI2 : LsI Y U q2 e2 := hI2; conv => whnf)
    | exact next_forget [1, 2] (IH (w64 (k_ - 1), _, _, X ++ [y_], spa_, q + 1, e) (by exact ⟨ha_, hI.2.next (by assumption) ra_⟩) (by exact hI.2.mu (by assumption))) (tmR_rfl rfl rfl) ⟨⟨⟨_, rfl, .lit (away_conc (bl_plain _) _).symm rfl (away_ok (bl_plain _) _)⟩⟩, ⟨⟨_, rfl, .lit rfl rfl (fun v hv => okB0_spec (allL_spec rfl v hv))⟩⟩, ⟨⟨_, rfl, .plain (by simp [il]) rfl (by first | exact Row.all ra_ | (rw [show ∀ (X : List Int) (v : Int), il (X ++ [v]) = il X ++ [iv v] from fun X v => by simp [il]]; exact Row.all ra_))⟩⟩, trivial⟩ rfl rfl
    | exact next_forget [1, _] (IH (w64 (k_ - 1), _, _, X ++ [y_], spa_, q + 1, ca_) (by exact ⟨ha_, hI.2.next (by assumption) ra_⟩) (by exact hI.2.mu (by assumption))) (tmR_rfl rfl rfl) ⟨⟨⟨_, rfl, .lit (away_conc (bl_plain _) _).symm rfl (away_ok (bl_plain _) _)⟩⟩, ⟨⟨_, rfl, .lit rfl rfl (fun v hv => okB0_spec (allL_spec rfl v hv))⟩⟩, ⟨⟨_, rfl, .plain (by simp [il]) rfl (by first | exact Row.all ra_ | (rw [show ∀ (X : List Int) (v : Int), il (X ++ [v]) = il X ++ [iv v] from fun X v => by simp [il]]; exact Row.all ra_))⟩⟩, trivial⟩ rfl rfl
    | exact next_forget [1, 2] (IH2 (Y ++ [1], spb_, q2 + 1, e2) (by exact hI2.next (by assumption) rb_) (by have := of_decide_eq_true (show decide ((q2 : Int) < 61) = true by assumption); show 61 - (q2 + 1) < 61 - q2; omega)) (tmR_rfl rfl rfl) ⟨⟨⟨_, rfl, .lit (away_conc (bl_plain _) _).symm rfl (away_ok (bl_plain _) _)⟩⟩, ⟨⟨_, rfl, .lit rfl rfl (fun v hv => okB0_spec (allL_spec rfl v hv))⟩⟩, ⟨⟨_, rfl, .plain (by simp [il]) rfl (by first | exact Row.all rb_ | (rw [show ∀ (X : List Int) (v : Int), il (X ++ [v]) = il X ++ [iv v] from fun X v => by simp [il]]; exact Row.all rb_))⟩⟩, trivial⟩ rfl rfl
    | exact next_forget [1, _] (IH2 (Y ++ [1], spb_, q2 + 1, cb_) (by exact hI2.next (by assumption) rb_) (by have := of_decide_eq_true (show decide ((q2 : Int) < 61) = true by assumption); show 61 - (q2 + 1) < 61 - q2; omega)) (tmR_rfl rfl rfl) ⟨⟨⟨_, rfl, .lit (away_conc (bl_plain _) _).symm rfl (away_ok (bl_plain _) _)⟩⟩, ⟨⟨_, rfl, .lit rfl rfl (fun v hv => okB0_spec (allL_spec rfl v hv))⟩⟩, ⟨⟨_, rfl, .plain (by simp [il]) rfl (by first | exact Row.all rb_ | (rw [show ∀ (X : List Int) (v : Int), il (X ++ [v]) = il X ++ [iv v] from fun X v => by simp [il]]; exact Row.all rb_))⟩⟩, trivial⟩ rfl rfl
    | (refine CallOK.useR (c_From_L hz hb hn) [0] rfl rfl rfl ⟨⟨⟨_, rfl, .lit (away_conc (bl_plain _) _).symm (fun _ h_ => by cases h_) (away_ok (bl_plain _) _)⟩⟩, trivial⟩ (fun v_ mem_ hR => ?_); obtain ⟨h_, rfl, rfl⟩ := hR; have ha_ := SrcAt.zero n; refine ⟨rfl, ?_⟩; (conv => whnf); refine mapK_eval (cs' := [.slice (some ⟨0, off, none⟩) n c, ii 0, wv h_]) rfl ?_; conv => whnf)
    | (refine CallOK.useD (c_Next_L (m := 9) hz hb hn hI.1) [0, 1] rfl rfl rfl ⟨⟨⟨_, rfl, .lit (away_conc (bl_plain _) _).symm (fun _ h_ => by cases h_) (away_ok (bl_plain _) _)⟩⟩, ⟨⟨_, rfl, .lit rfl (fun _ h_ => h_) (fun v hv => okB0_spec (allL_spec rfl v hv))⟩⟩, trivial⟩ (fun v_ mem_ hR => ?_); obtain ⟨x9_, o_, h_, hx9_, ha_, rfl, rfl⟩ := hR; refine ⟨rfl, ii x9_, fun _ => rfl, ?_⟩; (conv => whnf); refine mapK_eval (cs' := [.slice (some ⟨0, off, none⟩) n c, ii o_, wv h_]) rfl ?_; conv => whnf)
    | (refine CallOK.useD (c_Next_L (m := 24) hz hb hn hI.1) [0, 1] rfl rfl rfl ⟨⟨⟨_, rfl, .lit (away_conc (bl_plain _) _).symm (fun _ h_ => by cases h_) (away_ok (bl_plain _) _)⟩⟩, ⟨⟨_, rfl, .lit rfl (fun _ h_ => h_) (fun v hv => okB0_spec (allL_spec rfl v hv))⟩⟩, trivial⟩ (fun v_ mem_ hR => ?_); obtain ⟨x24_, o_, h_, hx24_, ha_, rfl, rfl⟩ := hR; refine ⟨rfl, ii x24_, fun _ => rfl, ?_⟩; (conv => whnf); refine mapK_eval (cs' := [.slice (some ⟨0, off, none⟩) n c, ii o_, wv h_]) rfl ?_; conv => whnf)
    | (refine CallOK.useD (c_Next_L (m := 4) hz hb hn (by assumption)) [0, 1] rfl rfl rfl ⟨⟨⟨_, rfl, .lit (away_conc (bl_plain _) _).symm (fun _ h_ => by cases h_) (away_ok (bl_plain _) _)⟩⟩, ⟨⟨_, rfl, .lit rfl (fun _ h_ => h_) (fun v hv => okB0_spec (allL_spec rfl v hv))⟩⟩, trivial⟩ (fun v_ mem_ hR => ?_); obtain ⟨x4_, o_, h_, hx4_, ha_, rfl, rfl⟩ := hR; refine ⟨rfl, ii x4_, fun _ => rfl, ?_⟩; (conv => whnf); refine mapK_eval (cs' := [.slice (some ⟨0, off, none⟩) n c, ii o_, wv h_]) rfl ?_; conv => whnf)
    | (refine CallOK.useD (c_Near_L hz hb hn (by assumption)) [0, 1] rfl rfl rfl ⟨⟨⟨_, rfl, .lit (away_conc (bl_plain _) _).symm (fun _ h_ => by cases h_) (away_ok (bl_plain _) _)⟩⟩, ⟨⟨_, rfl, .lit rfl (fun _ h_ => h_) (fun v hv => okB0_spec (allL_spec rfl v hv))⟩⟩, trivial⟩ (fun v_ mem_ hR => ?_); obtain ⟨y_, o_, h_, ha_, rfl, rfl⟩ := hR; refine ⟨rfl, ii y_, fun _ => rfl, ?_⟩; (conv => whnf); refine mapK_eval (cs' := [.slice (some ⟨0, off, none⟩) n c, ii o_, wv h_]) rfl ?_; conv => whnf)
    | (refine CallOK.useD (c_Pick_L (xs := [1, 1, 2, 3, 0, -1, w64 (x9_ - 4), y_]) hz hb hn (by assumption) (Nat.le_of_ble_eq_true rfl) (Nat.le_of_ble_eq_true rfl)) [0, 1, 3] rfl rfl rfl ⟨⟨⟨_, rfl, .lit (away_conc (bl_plain _) _).symm (fun _ h_ => by cases h_) (away_ok (bl_plain _) _)⟩⟩, ⟨⟨_, rfl, .lit rfl (fun _ h_ => h_) (fun v hv => okB0_spec (allL_spec rfl v hv))⟩⟩, ⟨⟨_, rfl, .plain rfl (fun _ h_ => by cases h_) (il_plain _)⟩⟩, trivial⟩ (fun v_ mem_ hR => ?_); obtain ⟨y_, o_, h_, ha_, rfl, rfl⟩ := hR; refine ⟨rfl, ii y_, fun _ => rfl, ?_⟩; (conv => whnf); refine mapK_eval (cs' := [.slice (some ⟨0, off, none⟩) n c, ii o_, wv h_]) rfl ?_; conv => whnf)
    | (refine CallOK.useD (c_Pick_L (xs := [1000001, -1000000]) hz hb hn (by assumption) (Nat.le_of_ble_eq_true rfl) (Nat.le_of_ble_eq_true rfl)) [0, 1, 3] rfl rfl rfl ⟨⟨⟨_, rfl, .lit (away_conc (bl_plain _) _).symm (fun _ h_ => by cases h_) (away_ok (bl_plain _) _)⟩⟩, ⟨⟨_, rfl, .lit rfl (fun _ h_ => h_) (fun v hv => okB0_spec (allL_spec rfl v hv))⟩⟩, ⟨⟨_, rfl, .plain rfl (fun _ h_ => by cases h_) (il_plain _)⟩⟩, trivial⟩ (fun v_ mem_ hR => ?_); obtain ⟨y_, o_, h_, ha_, rfl, rfl⟩ := hR; refine ⟨rfl, ii y_, fun _ => rfl, ?_⟩; (conv => whnf); refine mapK_eval (cs' := [.slice (some ⟨0, off, none⟩) n c, ii o_, wv h_]) rfl ?_; conv => whnf)
    | (show AppK _ _ _ 1 _ _ _ _ _; refine app_lit hI2.row rfl rfl rfl (Plain.of rfl) rfl rfl (by decide) (by have := hI2.le; show (_ + 1) * 8 ≤ _; omega) (by have := hI2.le; omega) (fun hle_ spb_ rb_ => ?_) (fun hle_ cb_ spb_ rb_ => ?_) <;> conv => whnf)
    | (show AppK _ _ _ 1 _ _ _ _ _; refine app_lit hI.2.row rfl rfl rfl (Plain.of rfl) rfl rfl (by decide) (by have := hI.2.bd; show (_ + 1) * 8 ≤ _; omega) (by have := hI.2.bd; omega) (fun hle_ spa_ ra_ => ?_) (fun hle_ ca_ spa_ ra_ => ?_) <;> conv => whnf)
    | (refine br_in (by omega) (by have := hI.2.pos (by assumption); omega) ?_; conv => whnf)
    | (refine StoreK.mk ?_ ?_; (focus (have h1_ := hI.2.pos (by assumption); have h2_ := row_il hI.2.row; have h3_ : (0 + Int.toNat 0 * 1 + 1 : Nat) ≤ (il X ++ S).length := (by rw [List.length_append, il_len]; simp; omega); exact Nat.ble_eq_true_of_le h3_)); (refine force_il (xs := X) (off := 0 + Int.toNat 0 * 1) ?_ rfl ?_); (focus (have := hI.2.pos (by assumption); have := row_il hI.2.row; show 0 < _; omega)); conv => whnf)
    | (refine force_il (xs := X) ?_ rfl ?_; (focus (have := hI.2.pos (by assumption); have := row_il hI.2.row; omega)); conv => whnf)
    | (show OutK _ _ _ _; have hrw_ := (show Row (il (X ++ [1])) spa_ _ _ 1 from (by rw [il_snoc]; exact ra_)); exact out_forget [_] ⟨_, _, _, _, hrw_, (by have := hI.2.bd; omega), rfl, rfl⟩ rfl (okB2_spec rfl) ⟨⟨⟨_, rfl, .lit (away_conc (bl_plain _) _).symm rfl (away_ok (bl_plain _) _)⟩⟩, ⟨⟨_, rfl, .plain (by simp [il]) rfl (by first | exact Row.all ra_ | (rw [show ∀ (X : List Int) (v : Int), il (X ++ [v]) = il X ++ [iv v] from fun X v => by simp [il]]; exact Row.all ra_))⟩⟩, trivial⟩ rfl rfl)
    | (show OutK _ _ _ _; have hrw_ := hI2.row; exact out_forget [_] ⟨_, _, _, _, hrw_, (by have := hI2.le; omega), rfl, rfl⟩ rfl (okB2_spec rfl) ⟨⟨⟨_, rfl, .lit (away_conc (bl_plain _) _).symm rfl (away_ok (bl_plain _) _)⟩⟩, ⟨⟨_, rfl, .plain rfl rfl (Row.all hI2.row)⟩⟩, trivial⟩ rfl rfl)
    | (show OutK _ _ _ _; have hrw_ := (row_set0 hI.2.row y_); exact out_forget [_] ⟨_, _, _, _, hrw_, (by have := hI.2.bd; omega), rfl, rfl⟩ rfl (okB2_spec rfl) ⟨⟨⟨_, rfl, .lit (away_conc (bl_plain _) _).symm rfl (away_ok (bl_plain _) _)⟩⟩, ⟨⟨_, rfl, .plain rfl rfl (Row.all (row_set0 hI.2.row y_))⟩⟩, trivial⟩ rfl rfl)
    | (show OutK _ _ _ _; have hrw_ := hI.2.row; exact out_forget [_] ⟨_, _, _, _, hrw_, (by have := hI.2.bd; omega), rfl, rfl⟩ rfl (okB2_spec rfl) ⟨⟨⟨_, rfl, .lit (away_conc (bl_plain _) _).symm rfl (away_ok (bl_plain _) _)⟩⟩, ⟨⟨_, rfl, .plain rfl rfl (Row.all hI.2.row)⟩⟩, trivial⟩ rfl rfl)
    | (refine StoreK.mk rfl ?_; conv => whnf)
    | exact join_same
    | exact (by assumption : (_ : Bool) = (_ : Bool))
    | (refine br_true (by assumption) ?_; conv => whnf)
    | (refine br_false (by assumption) ?_; conv => whnf)
    | (refine br_not ?_; conv => whnf)
    | (refine br_code ?_; conv => whnf)
    | (with_reducible refine br_and ?_; conv => whnf)
    | (with_reducible refine br_or ?_; conv => whnf)
    | (refine br_eq2 ?_; conv => whnf)
    | (refine draw_auto (by decide +kernel) ?_; conv => whnf)
    | (refine draw_asg (by decide +kernel) ?_; conv => whnf)
    | (refine draw_st (by decide +kernel) ?_; conv => whnf)
    | (refine draw_call (by decide +kernel) ?_; conv => whnf)
    | (refine enter_same (loop_n 12 ?_); conv => whnf)
    | (refine next_same ?_; conv => whnf)
    | (refine mapK_row (by assumption) ?_; conv => whnf)
    | (refine mapK_plain (Plain.of rfl) ?_; conv => whnf)
    | (refine mapK_lit ?_; conv => whnf)
    | (refine br_split (fun _ => ?_) (fun _ => ?_) <;> conv => whnf)
    | exact (rfl : (_ : Value) = _)
    | (simp only [*]; exact (rfl : (_ : Value) = _))
    | (simp [*]; done))

set_option maxHeartbeats 4000000 in
theorem c_DrawLst_N   : CallOK Try.prog n_spec_DrawCornerOfExpansion [.slice none 0 0] [] (fun v m_ => ∃ (xs : List Int) (sp_ : List Value) (nn cc : Nat), Row (il xs) sp_ nn cc 1 ∧ nn ≤ 100 ∧ v = .slice (some ⟨0, 0, none⟩) nn cc ∧ m_ = [(il xs ++ sp_, some 2)]) := by
  refine callOK_ofF good fn_spec_DrawCornerOfExpansion ?_
  conv => whnf
  all_goals (repeat' first
    | (refine enter_forget [0, 1] (loop_rec (fun (s : Int × Int × Int × (List Int) × (List Value) × Nat × Nat) => match s with | (k_, o2, h2, X, S, q, e) => [.slice none 0 0, wild, .slice none 0 0, .pointer (some ⟨0, 0, none⟩), .slice (some ⟨1, 0, none⟩) q e, ii k_, wild, wild, wild, wild, wild, wild, wild, wild, wild, wild, wild, wild, wild, wild, wild, wild, wild, wild, wild, wild, wild, wild, wild, wild, wild, wild, wild, wild, wild, wild, wild, wild, wild, wild, wild, wild, wild, wild, wild, wild, wild, wild, wild, wild, wild]) (fun (s : Int × Int × Int × (List Int) × (List Value) × Nat × Nat) => match s with | (k_, o2, h2, X, S, q, e) => [([.slice none 0 0, ii o2, wv h2], some t_spec_l01Source), (il X ++ S, some 2)]) (fun (s : Int × Int × Int × (List Int) × (List Value) × Nat × Nat) => match s with | (k_, o2, h2, X, S, q, e) => k_.toNat) (fun (s : Int × Int × Int × (List Int) × (List Value) × Nat × Nat) => match s with | (k_, o2, h2, X, S, q, e) => SrcAt 0 o2 ∧ DcI (w64 (w64 (2 * x4_) + 1)) k_ X S q e) ((w64 (w64 (2 * x4_) + 1)), _, _, [], [], 0, 0) ⟨ha_, DcI.start (hx4_ (by omega))⟩ ?_) (tmR_rfl rfl rfl) ⟨⟨⟨_, rfl, .lit rfl rfl (fun v hv => okB0_spec (allL_spec rfl v hv))⟩⟩, ⟨⟨_, rfl, .plain rfl rfl Plain.nil⟩⟩, trivial⟩ rfl rfl; rintro fuel_ ⟨k_, o2, h2, X, S, q, e⟩ hI IH; replace hI : SrcAt 0 o2 ∧ DcI (w64 (w64 (2 * x4_) + 1)) k_ X S q e := hI; conv => whnf)
    | (refine enter_forget [0, 1] (loop_rec (fun (s : (List Int) × (List Value) × Nat × Nat) => match s with | (Y, U, q2, e2) => [.slice none 0 0, wild, .slice none 0 0, .pointer (some ⟨0, 0, none⟩), .slice (some ⟨1, 0, none⟩) q2 e2, wild, wild, wild, wild, wild, wild, wild, wild, wild, wild, wild, wild, wild, wild, wild, wild, wild, wild, wild, wild, wild, wild, wild, wild, wild, wild, wild, wild, wild, wild, wild, wild, wild, wild, wild, wild, wild, wild, wild, wild, wild, wild, wild, wild, wild, wild]) (fun (s : (List Int) × (List Value) × Nat × Nat) => match s with | (Y, U, q2, e2) => [([.slice none 0 0, ii o_, wv h_], some t_spec_l01Source), (il Y ++ U, some 2)]) (fun (s : (List Int) × (List Value) × Nat × Nat) => match s with | (Y, U, q2, e2) => 61 - q2) (fun (s : (List Int) × (List Value) × Nat × Nat) => match s with | (Y, U, q2, e2) => LsI Y U q2 e2) (X, S, q, e) ⟨hI.2.row, by have := hI.2.bd; omega⟩ ?_) (tmR_rfl rfl rfl) ⟨⟨⟨_, rfl, .lit rfl rfl (fun v hv => okB0_spec (allL_spec rfl v hv))⟩⟩, ⟨⟨_, rfl, .plain rfl rfl (Row.all hI.2.row)⟩⟩, trivial⟩ rfl rfl; rintro fuel_2 ⟨Y, U, q2, e2⟩ hI2 IH2; replace hI2 : LsI Y U q2 e2 := hI2; conv => whnf)
    | exact next_forget [0, 1] (IH (w64 (k_ - 1), _, _, X ++ [y_], spa_, q + 1, e) (by exact ⟨ha_, hI.2.next (by assumption) ra_⟩) (by exact hI.2.mu (by assumption))) (tmR_rfl rfl rfl) ⟨⟨⟨_, rfl, .lit rfl rfl (fun v hv => okB0_spec (allL_spec rfl v hv))⟩⟩, ⟨⟨_, rfl, .plain (by simp [il]) rfl (by first | exact Row.all ra_ | (rw [show ∀ (X : List Int) (v : Int), il (X ++ [v]) = il X ++ [iv v] from fun X v => by simp [il]]; exact Row.all ra_))⟩⟩, trivial⟩ rfl rfl
    | exact next_forget [0, _] (IH (w64 (k_ - 1), _, _, X ++ [y_], spa_, q + 1, ca_) (by exact ⟨ha_, hI.2.next (by assumption) ra_⟩) (by exact hI.2.mu (by assumption))) (tmR_rfl rfl rfl) ⟨⟨⟨_, rfl, .lit rfl rfl (fun v hv => okB0_spec (allL_spec rfl v hv))⟩⟩, ⟨⟨_, rfl, .plain (by simp [il]) rfl (by first | exact Row.all ra_ | (rw [show ∀ (X : List Int) (v : Int), il (X ++ [v]) = il X ++ [iv v] from fun X v => by simp [il]]; exact Row.all ra_))⟩⟩, trivial⟩ rfl rfl
    | exact next_forget [0, 1] (IH2 (Y ++ [1], spb_, q2 + 1, e2) (by exact hI2.next (by assumption) rb_) (by have := of_decide_eq_true (show decide ((q2 : Int) < 61) = true by assumption); show 61 - (q2 + 1) < 61 - q2; omega)) (tmR_rfl rfl rfl) ⟨⟨⟨_, rfl, .lit rfl rfl (fun v hv => okB0_spec (allL_spec rfl v hv))⟩⟩, ⟨⟨_, rfl, .plain (by simp [il]) rfl (by first | exact Row.all rb_ | (rw [show ∀ (X : List Int) (v : Int), il (X ++ [v]) = il X ++ [iv v] from fun X v => by simp [il]]; exact Row.all rb_))⟩⟩, trivial⟩ rfl rfl
    | exact next_forget [0, _] (IH2 (Y ++ [1], spb_, q2 + 1, cb_) (by exact hI2.next (by assumption) rb_) (by have := of_decide_eq_true (show decide ((q2 : Int) < 61) = true by assumption); show 61 - (q2 + 1) < 61 - q2; omega)) (tmR_rfl rfl rfl) ⟨⟨⟨_, rfl, .lit rfl rfl (fun v hv => okB0_spec (allL_spec rfl v hv))⟩⟩, ⟨⟨_, rfl, .plain (by simp [il]) rfl (by first | exact Row.all rb_ | (rw [show ∀ (X : List Int) (v : Int), il (X ++ [v]) = il X ++ [iv v] from fun X v => by simp [il]]; exact Row.all rb_))⟩⟩, trivial⟩ rfl rfl
    | (refine CallOK.useR (c_From_N) [] rfl rfl rfl trivial (fun v_ mem_ hR => ?_); obtain ⟨h_, rfl, rfl⟩ := hR; have ha_ := SrcAt.zero 0; refine ⟨rfl, ?_⟩; (conv => whnf); refine mapK_eval (cs' := [.slice none 0 0, ii 0, wv h_]) rfl ?_; conv => whnf)
    | (refine CallOK.useD (c_Next_N (m := 9) hI.1) [0] rfl rfl rfl ⟨⟨⟨_, rfl, .lit rfl (fun _ h_ => h_) (fun v hv => okB0_spec (allL_spec rfl v hv))⟩⟩, trivial⟩ (fun v_ mem_ hR => ?_); obtain ⟨x9_, o_, h_, hx9_, ha_, rfl, rfl⟩ := hR; refine ⟨rfl, ii x9_, fun _ => rfl, ?_⟩; (conv => whnf); refine mapK_eval (cs' := [.slice none 0 0, ii o_, wv h_]) rfl ?_; conv => whnf)
    | (refine CallOK.useD (c_Next_N (m := 24) hI.1) [0] rfl rfl rfl ⟨⟨⟨_, rfl, .lit rfl (fun _ h_ => h_) (fun v hv => okB0_spec (allL_spec rfl v hv))⟩⟩, trivial⟩ (fun v_ mem_ hR => ?_); obtain ⟨x24_, o_, h_, hx24_, ha_, rfl, rfl⟩ := hR; refine ⟨rfl, ii x24_, fun _ => rfl, ?_⟩; (conv => whnf); refine mapK_eval (cs' := [.slice none 0 0, ii o_, wv h_]) rfl ?_; conv => whnf)
    | (refine CallOK.useD (c_Next_N (m := 4) (by assumption)) [0] rfl rfl rfl ⟨⟨⟨_, rfl, .lit rfl (fun _ h_ => h_) (fun v hv => okB0_spec (allL_spec rfl v hv))⟩⟩, trivial⟩ (fun v_ mem_ hR => ?_); obtain ⟨x4_, o_, h_, hx4_, ha_, rfl, rfl⟩ := hR; refine ⟨rfl, ii x4_, fun _ => rfl, ?_⟩; (conv => whnf); refine mapK_eval (cs' := [.slice none 0 0, ii o_, wv h_]) rfl ?_; conv => whnf)
    | (refine CallOK.useD (c_Near_N (by assumption)) [0] rfl rfl rfl ⟨⟨⟨_, rfl, .lit rfl (fun _ h_ => h_) (fun v hv => okB0_spec (allL_spec rfl v hv))⟩⟩, trivial⟩ (fun v_ mem_ hR => ?_); obtain ⟨y_, o_, h_, ha_, rfl, rfl⟩ := hR; refine ⟨rfl, ii y_, fun _ => rfl, ?_⟩; (conv => whnf); refine mapK_eval (cs' := [.slice none 0 0, ii o_, wv h_]) rfl ?_; conv => whnf)
    | (refine CallOK.useD (c_Pick_N (xs := [1, 1, 2, 3, 0, -1, w64 (x9_ - 4), y_]) (by assumption) (Nat.le_of_ble_eq_true rfl) (Nat.le_of_ble_eq_true rfl)) [0, 2] rfl rfl rfl ⟨⟨⟨_, rfl, .lit rfl (fun _ h_ => h_) (fun v hv => okB0_spec (allL_spec rfl v hv))⟩⟩, ⟨⟨_, rfl, .plain rfl (fun _ h_ => by cases h_) (il_plain _)⟩⟩, trivial⟩ (fun v_ mem_ hR => ?_); obtain ⟨y_, o_, h_, ha_, rfl, rfl⟩ := hR; refine ⟨rfl, ii y_, fun _ => rfl, ?_⟩; (conv => whnf); refine mapK_eval (cs' := [.slice none 0 0, ii o_, wv h_]) rfl ?_; conv => whnf)
    | (refine CallOK.useD (c_Pick_N (xs := [1000001, -1000000]) (by assumption) (Nat.le_of_ble_eq_true rfl) (Nat.le_of_ble_eq_true rfl)) [0, 2] rfl rfl rfl ⟨⟨⟨_, rfl, .lit rfl (fun _ h_ => h_) (fun v hv => okB0_spec (allL_spec rfl v hv))⟩⟩, ⟨⟨_, rfl, .plain rfl (fun _ h_ => by cases h_) (il_plain _)⟩⟩, trivial⟩ (fun v_ mem_ hR => ?_); obtain ⟨y_, o_, h_, ha_, rfl, rfl⟩ := hR; refine ⟨rfl, ii y_, fun _ => rfl, ?_⟩; (conv => whnf); refine mapK_eval (cs' := [.slice none 0 0, ii o_, wv h_]) rfl ?_; conv => whnf)
    | (show AppK _ _ _ 1 _ _ _ _ _; refine app_lit hI2.row rfl rfl rfl (Plain.of rfl) rfl rfl (by decide) (by have := hI2.le; show (_ + 1) * 8 ≤ _; omega) (by have := hI2.le; omega) (fun hle_ spb_ rb_ => ?_) (fun hle_ cb_ spb_ rb_ => ?_) <;> conv => whnf)
    | (show AppK _ _ _ 1 _ _ _ _ _; refine app_lit hI.2.row rfl rfl rfl (Plain.of rfl) rfl rfl (by decide) (by have := hI.2.bd; show (_ + 1) * 8 ≤ _; omega) (by have := hI.2.bd; omega) (fun hle_ spa_ ra_ => ?_) (fun hle_ ca_ spa_ ra_ => ?_) <;> conv => whnf)
    | (refine br_in (by omega) (by have := hI.2.pos (by assumption); omega) ?_; conv => whnf)
    | (refine StoreK.mk ?_ ?_; (focus (have h1_ := hI.2.pos (by assumption); have h2_ := row_il hI.2.row; have h3_ : (0 + Int.toNat 0 * 1 + 1 : Nat) ≤ (il X ++ S).length := (by rw [List.length_append, il_len]; simp; omega); exact Nat.ble_eq_true_of_le h3_)); (refine force_il (xs := X) (off := 0 + Int.toNat 0 * 1) ?_ rfl ?_); (focus (have := hI.2.pos (by assumption); have := row_il hI.2.row; show 0 < _; omega)); conv => whnf)
    | (refine force_il (xs := X) ?_ rfl ?_; (focus (have := hI.2.pos (by assumption); have := row_il hI.2.row; omega)); conv => whnf)
    | (show OutK _ _ _ _; have hrw_ := (show Row (il (X ++ [1])) spa_ _ _ 1 from (by rw [il_snoc]; exact ra_)); exact out_forget [_] ⟨_, _, _, _, hrw_, (by have := hI.2.bd; omega), rfl, rfl⟩ rfl (okB2_spec rfl) ⟨⟨⟨_, rfl, .plain (by simp [il]) rfl (by first | exact Row.all ra_ | (rw [show ∀ (X : List Int) (v : Int), il (X ++ [v]) = il X ++ [iv v] from fun X v => by simp [il]]; exact Row.all ra_))⟩⟩, trivial⟩ rfl rfl)
    | (show OutK _ _ _ _; have hrw_ := hI2.row; exact out_forget [_] ⟨_, _, _, _, hrw_, (by have := hI2.le; omega), rfl, rfl⟩ rfl (okB2_spec rfl) ⟨⟨⟨_, rfl, .plain rfl rfl (Row.all hI2.row)⟩⟩, trivial⟩ rfl rfl)
    | (show OutK _ _ _ _; have hrw_ := (row_set0 hI.2.row y_); exact out_forget [_] ⟨_, _, _, _, hrw_, (by have := hI.2.bd; omega), rfl, rfl⟩ rfl (okB2_spec rfl) ⟨⟨⟨_, rfl, .plain rfl rfl (Row.all (row_set0 hI.2.row y_))⟩⟩, trivial⟩ rfl rfl)
    | (show OutK _ _ _ _; have hrw_ := hI.2.row; exact out_forget [_] ⟨_, _, _, _, hrw_, (by have := hI.2.bd; omega), rfl, rfl⟩ rfl (okB2_spec rfl) ⟨⟨⟨_, rfl, .plain rfl rfl (Row.all hI.2.row)⟩⟩, trivial⟩ rfl rfl)
    | (refine StoreK.mk rfl ?_; conv => whnf)
    | exact join_same
    | exact (by assumption : (_ : Bool) = (_ : Bool))
    | (refine br_true (by assumption) ?_; conv => whnf)
    | (refine br_false (by assumption) ?_; conv => whnf)
    | (refine br_not ?_; conv => whnf)
    | (refine br_code ?_; conv => whnf)
    | (with_reducible refine br_and ?_; conv => whnf)
    | (with_reducible refine br_or ?_; conv => whnf)
    | (refine br_eq2 ?_; conv => whnf)
    | (refine draw_auto (by decide +kernel) ?_; conv => whnf)
    | (refine draw_asg (by decide +kernel) ?_; conv => whnf)
    | (refine draw_st (by decide +kernel) ?_; conv => whnf)
    | (refine draw_call (by decide +kernel) ?_; conv => whnf)
    | (refine enter_same (loop_n 12 ?_); conv => whnf)
    | (refine next_same ?_; conv => whnf)
    | (refine mapK_row (by assumption) ?_; conv => whnf)
    | (refine mapK_plain (Plain.of rfl) ?_; conv => whnf)
    | (refine mapK_lit ?_; conv => whnf)
    | (refine br_split (fun _ => ?_) (fun _ => ?_) <;> conv => whnf)
    | exact (rfl : (_ : Value) = _)
    | (simp only [*]; exact (rfl : (_ : Value) = _))
    | (simp [*]; done))

end Go.Proofs.Ytlkbfpklhncfbaa
end

section
/-
  The rows of laws over drawn bytes: a contract without memory, used at the row. Conditions: none.
-/
set_option linter.unusedVariables false
namespace Go.Ev
open Go.RowKit

theorem run_nil {P : Program} {f : Nat} {W : World} {R : Value → Mem → Prop} (h : CallOK P f [.slice none 0 0] [] R) (hR : ∀ v m, R v m → v = .bool true) :
    Calls P f #[.slice none 0 0] W (fun e w' => e = .returned (.bool true) ∧ Below W.heap.size W w') := by
  have hm : MemAt ⟨W, []⟩ [] [] W := by
    refine ⟨rfl, rfl, rfl, Nat.le_refl _, rfl, fun b hb => (by cases hb), fun i j cs t hi => ?_, fun _ _ _ => rfl, fun k cs t hk => ?_, fun k cs t hk => ?_, fun k cs hk => ?_⟩
    · cases i <;> cases hi
    · cases k <;> cases hk
    · cases k <;> cases hk
    · cases k <;> cases hk
  have := h.run ⟨W, []⟩ [] W hm (fun v hv => by rw [List.mem_singleton] at hv; subst hv; trivial)
  refine this.mono fun e w' ⟨v, mem', σ, h1, h2, h3, h4⟩ => ?_
  have := hR _ _ h4
  subst this
  exact ⟨h1, h3.toBelow⟩

end Go.Ev
end
