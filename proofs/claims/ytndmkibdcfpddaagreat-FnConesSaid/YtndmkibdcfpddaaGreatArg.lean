/-
  The rows: arguments that are slices of whole numbers, opened; a law's contract over a row that came in, used at the row.
  Conditions: none.
-/
import Derived.Test.YtndmkibdcfpddaaGreatEvRow
import Derived.Test.YtndmkibdcfpddaaGreatEvUse
import Derived.ChangeSlices
import Derived.Test.YtndmkibdcfpddaaGreatKM1
set_option linter.unusedVariables false
set_option linter.unusedSimpArgs false
namespace Go.Ev
open Go.ChangeShapes Go.WideShapes Go.ChangeAt Go.RowKit

def away (off : Nat) (L : List Value) : List Value := List.replicate off wild ++ L
theorem away_ok {off : Nat} {L : List Value} (h : Plain L) (n : Nat) : ∀ v ∈ away off L, ok0 n v := fun v hv => by
  rcases List.mem_append.1 hv with hv | hv
  · rw [List.eq_of_mem_replicate hv]; trivial
  · exact h.ok n v hv
theorem away_conc {off : Nat} {L : List Value} (h : Plain L) (ρ : List Nat) : (away off L).map (conc0 ρ) = away off L := by
  unfold away
  rw [List.map_append, h.map, List.map_replicate]; rfl
theorem take_away {off o : Nat} {L : List Value} {k : Nat} : List.take k (List.drop (off + o) (away off L)) = List.take k (List.drop o L) := by
  unfold away
  rw [← List.drop_drop, List.drop_left' (by simp)]

structure ArgAt (W : World) (ab off : Nat) (L : List Value) : Prop where
  lt : ab < W.heap.size
  at_ : ∀ i u, L[i]? = some u → W.cell? ⟨ab, off + i, none⟩ = some u

theorem run_arg {P : Program} {f n c off : Nat} {L : List Value} {W : World} {ab : Nat} {R : Value → Mem → Prop} (h : CallOK P f [.slice (some ⟨0, off, none⟩) n c] [(away off L, none)] R) (hR : ∀ v m, R v m → v = .bool true) (hL : Plain L) (ha : ArgAt W ab off L) :
    Calls P f #[.slice (some ⟨ab, off, none⟩) n c] W (fun e w' => e = .returned (.bool true) ∧ Below W.heap.size W w') := by
  have hm : MemAt ⟨W, []⟩ [ab] [(away off L, none)] W := by
    refine ⟨rfl, rfl, rfl, Nat.le_refl _, rfl, fun b hb => by rw [List.mem_singleton] at hb; subst hb; exact ha.lt, fun i j cs t hi => ?_, fun _ _ _ => rfl, fun k cs t hk => ?_, fun k cs t hk => ?_, fun k cs hk => ?_⟩
    · cases i with
      | zero => cases hi
      | succ i => cases hi
    · cases k with
      | zero => cases hk
      | succ k => cases hk
    · cases k with
      | zero => cases hk
      | succ k => cases hk
    · cases k with
      | succ k => cases hk
      | zero =>
        simp only [List.getElem?_cons_zero, Option.some.injEq, Prod.mk.injEq, and_true] at hk
        subst hk
        intro _
        refine ⟨ha.lt, by simp, fun i v hv hw => ?_, away_ok hL _⟩
        unfold away at hv
        rcases Nat.lt_or_ge i off with hi | hi
        · rw [List.getElem?_append_left (by simpa using hi)] at hv
          have := List.eq_of_mem_replicate (List.mem_of_getElem? hv)
          subst this
          cases hw
        · rw [List.getElem?_append_right (by simpa using hi), List.length_replicate] at hv
          have := ha.at_ _ _ hv
          rw [show off + (i - off) = i by omega] at this
          have hc : conc0 [ab] v = v := (plain0_ok (hL v (List.mem_of_getElem? hv)) 0 [ab]).2
          rw [hc]
          exact this
  have := h.run ⟨W, []⟩ [ab] W hm (fun v hv => by rw [List.mem_singleton] at hv; subst hv; show (0 : Nat) < 1; omega)
  refine this.mono fun e w' ⟨v, mem', σ, h1, h2, h3, h4⟩ => ?_
  have := hR _ _ h4
  subst this
  exact ⟨h1, h3.toBelow⟩

theorem open_slice_nums {H : Type} {enc : TypeId × Value → H} {P : Program} {W : World} {base b0 : Nat} {held : Bool} {r : Reach} {t e : TypeId} {k : IntKind} {v : Value} {d : DataW H} {ps : List MemPlace}
    (ht : P.underlying t = some (.slice e)) (he : P.underlying e = some (.int k)) (hc : P.cellsOf e = 1) (hval : Value.okWide P W r b0 t v) (hd : DataW.Trod enc P W base (fun _ => true) held t v d ps) :
    v = .slice none 0 0 ∨ ∃ (ab ao len cap : Nat) (zs : List Int), v = .slice (some ⟨ab, ao, none⟩) len cap ∧ len ≤ cap ∧ cap ≤ maxLen ∧ zs.length = cap ∧ ArgAt W ab ao (zs.map (Value.int k)) ∧ ∀ n ∈ zs, (Lit.int k n).wf = true := by
  obtain ⟨a1, len, cap, rfl⟩ := okWide_slice ht hval
  obtain ⟨fuel, hf⟩ := hd
  rcases open_ints ht he hc hf with ⟨hcs, hx⟩ | ⟨a, len', cap', zs, hcs, _, hl, hm, hz, hx, hcell, hwz⟩
  · simp [Value.cells] at hcs
    obtain ⟨rfl, rfl, rfl⟩ := hcs
    exact .inl rfl
  · simp [Value.cells] at hcs
    obtain ⟨rfl, rfl, rfl⟩ := hcs
    simp only [if_true] at hz
    obtain ⟨ab, ao, spot⟩ := a
    simp only [Value.okWide, ht, Cell.okWide, Cell.ok, World.has] at hval
    obtain ⟨_, _, _, hspot, row, cells, hsh, _⟩ := hval
    subst hspot
    refine .inr ⟨ab, ao, len, cap, zs, rfl, hl, hm, hz, ⟨?_, fun i u hu => ?_⟩, hwz⟩
    · rcases Nat.lt_or_ge ab W.heap.size with h | h
      · exact h
      · simp [World.shape?, h] at hsh
    · rw [List.getElem?_map] at hu
      cases hzi : zs[i]? with
      | none => rw [hzi] at hu; cases hu
      | some z =>
        rw [hzi] at hu
        simp only [Option.map_some, Option.some.injEq] at hu
        subst hu
        have := hcell i (getElem?_len hzi)
        rw [Addr.add_lit] at this
        rw [this]
        congr 2
        simp [List.getD, hzi]

def bl (xs : List Int) : List Value := xs.map (Value.int .u8)
def IsByte (x : Int) : Prop := 0 ≤ x ∧ x ≤ 255
theorem bl_plain (xs : List Int) : Plain (bl xs) := fun v hv => by
  obtain ⟨x, _, rfl⟩ := List.mem_map.1 hv
  rfl
theorem bl_len (xs : List Int) : (bl xs).length = xs.length := by simp [bl]
theorem byte_wf {n : Int} (h : (Lit.int .u8 n).wf = true) : IsByte n := bounds_u8 h
theorem take_bl {xs : List Int} {off o i : Nat} {L : List Value} (hL : L = bl xs) (ho : o = off + i) (hi : i < xs.length) : List.take 1 (List.drop o (away off L)) = [.int .u8 (xs.getD i 0)] := by
  subst ho hL
  rw [take_away]
  have h1 : i < (bl xs).length := by rw [bl_len]; exact hi
  rw [List.drop_eq_getElem_cons h1]
  have : (bl xs)[i] = Value.int .u8 (xs.getD i 0) := by simp [bl, List.getD, hi]
  rw [this]
  rfl


theorem u64_wrap (n : Int) : 0 ≤ IntKind.u64.wrap n ∧ IntKind.u64.wrap n < 18446744073709551616 := by
  have h1 : IntKind.u64.wrap n = n % 18446744073709551616 := rfl
  rw [h1]
  omega
theorem u64and_le (a : Int) : 0 ≤ u64and a 1073741823 ∧ u64and a 1073741823 ≤ 1073741823 := by
  unfold u64and
  have h1 : (BitVec.ofInt IntKind.u64.bits a &&& BitVec.ofInt IntKind.u64.bits 1073741823).toNat ≤ 1073741823 := by
    rw [BitVec.toNat_and]
    exact Nat.and_le_right
  generalize (BitVec.ofInt IntKind.u64.bits a &&& BitVec.ofInt IntKind.u64.bits 1073741823).toNat = m at *
  have h2 : IntKind.u64.wrap (m : Int) = (m : Int) % 18446744073709551616 := rfl
  rw [h2]
  omega

end Go.Ev
