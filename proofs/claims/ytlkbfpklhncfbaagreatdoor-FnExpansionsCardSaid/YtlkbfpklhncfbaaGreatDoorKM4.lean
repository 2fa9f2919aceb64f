/-
  Several texts of this work in one (a claim holds at most 60 files).
  Conditions: as each contract states.
-/
import Derived.WalkKit
import Derived.Ground.NamesProg
import Derived.Shelf.Strconv.Itoa4
import Derived.Shelf.Strconv.ParseIntPublic10
import Derived.Shelf.Strings.Cut
import Derived.Shelf.Strings.Split
import Derived.Shelf.Strings.OnBuilder
import Derived.Test.YtlkbfpklhncfbaaGreatDoorKM1
import Derived.Test.YtlkbfpklhncfbaaGreatDoorKM3
section
/-
  Contracts of functions of the program (printed by a program of this work; Lean checks each).
  Conditions: as each contract states.
-/
namespace Go.Proofs.YtlkbfpklhncfbaaGreatDoor
open Go.Ev Go.RowKit
open Go.Shelf Go.Lib Go.Proofs
set_option maxRecDepth 100000
set_option linter.unusedVariables false
set_option linter.unusedSimpArgs false

def fmtLay_ren : Go.Shelf.Ren := ⟨fun | 173 => 95 | 246 => 110 | 283 => 125 | 284 => 126 | 285 => 127 | 286 => 128 | 129 => 136 | 317 => 135 | 318 => 137 | 319 => 138 | 320 => 139 | 337 => 140 | 338 => 141 | n => n, fun | 2 => 2 | 3 => 3 | 9 => 9 | 4 => 4 | 171 => 147 | 0 => 0 | 53 => 101 | 37 => 22 | 5 => 5 | 173 => 150 | 212 => 162 | 51 => 152 | 20 => 20 | 213 => 163 | 46 => 108 | 232 => 171 | 233 => 172 | n => n, fun | 17 => 3 | 18 => 6 | 19 => 7 | n => n⟩
theorem fmtLay : Go.Proofs.LaysM.n173 Tryz.prog fmtLay_ren := {
  mixed := by kernel_rfl
  f129 := Tryz.func136.trans (congrArg some (by kernel_rfl))
  f173 := Tryz.func95.trans (congrArg some (by kernel_rfl))
  f246 := Tryz.func110.trans (congrArg some (by kernel_rfl))
  f283 := Tryz.func125.trans (congrArg some (by kernel_rfl))
  f284 := Tryz.func126.trans (congrArg some (by kernel_rfl))
  f285 := Tryz.func127.trans (congrArg some (by kernel_rfl))
  f286 := Tryz.func128.trans (congrArg some (by kernel_rfl))
  f317 := Tryz.func135.trans (congrArg some (by kernel_rfl))
  f318 := Tryz.func137.trans (congrArg some (by kernel_rfl))
  f319 := Tryz.func138.trans (congrArg some (by kernel_rfl))
  f320 := Tryz.func139.trans (congrArg some (by kernel_rfl))
  f337 := Tryz.func140.trans (congrArg some (by kernel_rfl))
  f338 := Tryz.func141.trans (congrArg some (by kernel_rfl))
  t0 := Tryz.underlying0
  a0 := Tryz.isAgg0
  z0 := Tryz.sizeOf0
  v0 := Tryz.zeroValue0
  t2 := Tryz.underlying2
  a2 := Tryz.isAgg2
  z2 := Tryz.sizeOf2
  v2 := Tryz.zeroValue2
  t3 := Tryz.underlying3
  a3 := Tryz.isAgg3
  z3 := Tryz.sizeOf3
  v3 := Tryz.zeroValue3
  t4 := Tryz.underlying4
  a4 := Tryz.isAgg4
  z4 := Tryz.sizeOf4
  v4 := Tryz.zeroValue4
  t5 := Tryz.underlying5
  a5 := Tryz.isAgg5
  z5 := Tryz.sizeOf5
  v5 := Tryz.zeroValue5
  t9 := Tryz.underlying9
  a9 := Tryz.isAgg9
  z9 := Tryz.sizeOf9
  v9 := Tryz.zeroValue9
  t20 := Tryz.underlying20
  a20 := Tryz.isAgg20
  z20 := Tryz.sizeOf20
  v20 := Tryz.zeroValue20
  t37 := Tryz.underlying22
  a37 := Tryz.isAgg22
  z37 := Tryz.sizeOf22
  v37 := Tryz.zeroValue22
  t46 := Tryz.underlying108
  a46 := Tryz.isAgg108
  z46 := Tryz.sizeOf108
  v46 := Tryz.zeroValue108
  t51 := Tryz.underlying152
  a51 := Tryz.isAgg152
  z51 := Tryz.sizeOf152
  v51 := Tryz.zeroValue152
  t53 := Tryz.underlying101
  a53 := Tryz.isAgg101
  z53 := Tryz.sizeOf101
  v53 := Tryz.zeroValue101
  t171 := Tryz.underlying147
  a171 := Tryz.isAgg147
  z171 := Tryz.sizeOf147
  v171 := Tryz.zeroValue147
  t173 := Tryz.underlying150
  a173 := Tryz.isAgg150
  z173 := Tryz.sizeOf150
  v173 := Tryz.zeroValue150
  t212 := Tryz.underlying162
  a212 := Tryz.isAgg162
  z212 := Tryz.sizeOf162
  v212 := Tryz.zeroValue162
  t213 := Tryz.underlying163
  a213 := Tryz.isAgg163
  z213 := Tryz.sizeOf163
  t232 := Tryz.underlying171
  a232 := Tryz.isAgg171
  z232 := Tryz.sizeOf171
  v232 := Tryz.zeroValue171
  t233 := Tryz.underlying172
  a233 := Tryz.isAgg172
  z233 := Tryz.sizeOf172
  v233 := Tryz.zeroValue172
  g17 := by kernel_rfl
  g18 := by kernel_rfl
  g19 := by kernel_rfl
  i0 := by kernel_rfl
  i2 := by kernel_rfl
  i3 := by kernel_rfl
  i4 := by kernel_rfl
  i5 := by kernel_rfl
  i9 := by kernel_rfl
  i20 := by kernel_rfl
  i37 := by kernel_rfl
  i46 := by kernel_rfl
  i51 := by kernel_rfl
  i53 := by kernel_rfl
  i171 := by kernel_rfl
  i173 := by kernel_rfl
  i212 := by kernel_rfl
  i232 := by kernel_rfl
  i233 := by kernel_rfl
  m17 := by kernel_rfl
  m18 := by kernel_rfl
  m19 := by kernel_rfl }

def pintLay_ren : Go.Shelf.Ren := ⟨fun | 174 => 59 | 247 => 87 | 245 => 88 | 287 => 97 | 279 => 98 | 280 => 99 | 281 => 100 | 282 => 101 | 321 => 115 | 322 => 116 | 316 => 117 | 171 => 119 | 205 => 118 | 243 => 131 | 246 => 110 | 283 => 125 | 284 => 126 | 285 => 127 | 286 => 128 | 129 => 136 | 317 => 135 | 318 => 137 | 319 => 138 | 320 => 139 | 337 => 140 | 338 => 141 | n => n, fun | 9 => 9 | 3 => 3 | 2 => 2 | 75 => 80 | 85 => 81 | 4 => 4 | 167 => 119 | 5 => 5 | 53 => 101 | 175 => 120 | 46 => 108 | 168 => 122 | 37 => 22 | 0 => 0 | 210 => 140 | 21 => 21 | 127 => 143 | 145 => 157 | 143 => 155 | 171 => 147 | 173 => 150 | 212 => 162 | 51 => 152 | 20 => 20 | 213 => 163 | 232 => 171 | 233 => 172 | 80 => 75 | n => n, fun | 15 => 1 | 16 => 2 | 17 => 3 | 18 => 6 | 19 => 7 | n => n⟩
theorem pintLay : Go.Proofs.LaysC.n174 Tryz.prog pintLay_ren := {
  mixed := by kernel_rfl
  f129 := Tryz.func136.trans (congrArg some (by kernel_rfl))
  f171 := Tryz.func119.trans (congrArg some (by kernel_rfl))
  f174 := Tryz.func59.trans (congrArg some (by kernel_rfl))
  f205 := Tryz.func118.trans (congrArg some (by kernel_rfl))
  f243 := Tryz.func131.trans (congrArg some (by kernel_rfl))
  f245 := Tryz.func88.trans (congrArg some (by kernel_rfl))
  f246 := Tryz.func110.trans (congrArg some (by kernel_rfl))
  f247 := Tryz.func87.trans (congrArg some (by kernel_rfl))
  f279 := Tryz.func98.trans (congrArg some (by kernel_rfl))
  f280 := Tryz.func99.trans (congrArg some (by kernel_rfl))
  f281 := Tryz.func100.trans (congrArg some (by kernel_rfl))
  f282 := Tryz.func101.trans (congrArg some (by kernel_rfl))
  f283 := Tryz.func125.trans (congrArg some (by kernel_rfl))
  f284 := Tryz.func126.trans (congrArg some (by kernel_rfl))
  f285 := Tryz.func127.trans (congrArg some (by kernel_rfl))
  f286 := Tryz.func128.trans (congrArg some (by kernel_rfl))
  f287 := Tryz.func97.trans (congrArg some (by kernel_rfl))
  f316 := Tryz.func117.trans (congrArg some (by kernel_rfl))
  f317 := Tryz.func135.trans (congrArg some (by kernel_rfl))
  f318 := Tryz.func137.trans (congrArg some (by kernel_rfl))
  f319 := Tryz.func138.trans (congrArg some (by kernel_rfl))
  f320 := Tryz.func139.trans (congrArg some (by kernel_rfl))
  f321 := Tryz.func115.trans (congrArg some (by kernel_rfl))
  f322 := Tryz.func116.trans (congrArg some (by kernel_rfl))
  f337 := Tryz.func140.trans (congrArg some (by kernel_rfl))
  f338 := Tryz.func141.trans (congrArg some (by kernel_rfl))
  t0 := Tryz.underlying0
  a0 := Tryz.isAgg0
  z0 := Tryz.sizeOf0
  v0 := Tryz.zeroValue0
  t2 := Tryz.underlying2
  a2 := Tryz.isAgg2
  z2 := Tryz.sizeOf2
  v2 := Tryz.zeroValue2
  t3 := Tryz.underlying3
  a3 := Tryz.isAgg3
  z3 := Tryz.sizeOf3
  v3 := Tryz.zeroValue3
  t4 := Tryz.underlying4
  a4 := Tryz.isAgg4
  z4 := Tryz.sizeOf4
  v4 := Tryz.zeroValue4
  t5 := Tryz.underlying5
  a5 := Tryz.isAgg5
  z5 := Tryz.sizeOf5
  v5 := Tryz.zeroValue5
  t9 := Tryz.underlying9
  a9 := Tryz.isAgg9
  z9 := Tryz.sizeOf9
  v9 := Tryz.zeroValue9
  t20 := Tryz.underlying20
  a20 := Tryz.isAgg20
  z20 := Tryz.sizeOf20
  v20 := Tryz.zeroValue20
  t21 := Tryz.underlying21
  a21 := Tryz.isAgg21
  z21 := Tryz.sizeOf21
  v21 := Tryz.zeroValue21
  t37 := Tryz.underlying22
  a37 := Tryz.isAgg22
  z37 := Tryz.sizeOf22
  v37 := Tryz.zeroValue22
  t46 := Tryz.underlying108
  a46 := Tryz.isAgg108
  z46 := Tryz.sizeOf108
  v46 := Tryz.zeroValue108
  t51 := Tryz.underlying152
  a51 := Tryz.isAgg152
  z51 := Tryz.sizeOf152
  v51 := Tryz.zeroValue152
  t53 := Tryz.underlying101
  a53 := Tryz.isAgg101
  z53 := Tryz.sizeOf101
  v53 := Tryz.zeroValue101
  t75 := Tryz.underlying80
  a75 := Tryz.isAgg80
  z75 := Tryz.sizeOf80
  v75 := Tryz.zeroValue80
  t85 := Tryz.underlying81
  a85 := Tryz.isAgg81
  z85 := Tryz.sizeOf81
  v85 := Tryz.zeroValue81
  t127 := Tryz.underlying143
  a127 := Tryz.isAgg143
  z127 := Tryz.sizeOf143
  v127 := Tryz.zeroValue143
  t143 := Tryz.underlying155
  a143 := Tryz.isAgg155
  z143 := Tryz.sizeOf155
  v143 := Tryz.zeroValue155
  t145 := Tryz.underlying157
  a145 := Tryz.isAgg157
  z145 := Tryz.sizeOf157
  v145 := Tryz.zeroValue157
  t167 := Tryz.underlying119
  a167 := Tryz.isAgg119
  z167 := Tryz.sizeOf119
  v167 := Tryz.zeroValue119
  t168 := Tryz.underlying122
  a168 := Tryz.isAgg122
  z168 := Tryz.sizeOf122
  v168 := Tryz.zeroValue122
  t171 := Tryz.underlying147
  a171 := Tryz.isAgg147
  z171 := Tryz.sizeOf147
  v171 := Tryz.zeroValue147
  t173 := Tryz.underlying150
  a173 := Tryz.isAgg150
  z173 := Tryz.sizeOf150
  v173 := Tryz.zeroValue150
  t175 := Tryz.underlying120
  a175 := Tryz.isAgg120
  z175 := Tryz.sizeOf120
  v175 := Tryz.zeroValue120
  t210 := Tryz.underlying140
  a210 := Tryz.isAgg140
  z210 := Tryz.sizeOf140
  v210 := Tryz.zeroValue140
  t212 := Tryz.underlying162
  a212 := Tryz.isAgg162
  z212 := Tryz.sizeOf162
  v212 := Tryz.zeroValue162
  t213 := Tryz.underlying163
  a213 := Tryz.isAgg163
  z213 := Tryz.sizeOf163
  t232 := Tryz.underlying171
  a232 := Tryz.isAgg171
  z232 := Tryz.sizeOf171
  v232 := Tryz.zeroValue171
  t233 := Tryz.underlying172
  a233 := Tryz.isAgg172
  z233 := Tryz.sizeOf172
  v233 := Tryz.zeroValue172
  g15 := by kernel_rfl
  g16 := by kernel_rfl
  g17 := by kernel_rfl
  g18 := by kernel_rfl
  g19 := by kernel_rfl
  t80 := Tryz.underlying75
  a80 := Tryz.isAgg75
  z80 := Tryz.sizeOf75
  v80 := Tryz.zeroValue75
  i0 := by kernel_rfl
  i2 := by kernel_rfl
  i3 := by kernel_rfl
  i4 := by kernel_rfl
  i5 := by kernel_rfl
  i9 := by kernel_rfl
  i20 := by kernel_rfl
  i21 := by kernel_rfl
  i37 := by kernel_rfl
  i46 := by kernel_rfl
  i51 := by kernel_rfl
  i53 := by kernel_rfl
  i75 := by kernel_rfl
  i80 := by kernel_rfl
  i85 := by kernel_rfl
  i127 := by kernel_rfl
  i143 := by kernel_rfl
  i145 := by kernel_rfl
  i167 := by kernel_rfl
  i168 := by kernel_rfl
  i171 := by kernel_rfl
  i173 := by kernel_rfl
  i175 := by kernel_rfl
  i210 := by kernel_rfl
  i212 := by kernel_rfl
  i232 := by kernel_rfl
  i233 := by kernel_rfl
  m15 := by kernel_rfl
  m16 := by kernel_rfl
  m17 := by kernel_rfl
  m18 := by kernel_rfl
  m19 := by kernel_rfl
  c0 := by kernel_rfl
  c2 := by kernel_rfl
  c3 := by kernel_rfl
  c4 := by kernel_rfl
  c5 := by kernel_rfl
  c9 := by kernel_rfl
  c20 := by kernel_rfl
  c21 := by kernel_rfl
  c37 := by kernel_rfl
  c46 := by kernel_rfl
  c51 := by kernel_rfl
  c53 := by kernel_rfl
  c75 := by kernel_rfl
  c80 := by kernel_rfl
  c85 := by kernel_rfl
  c127 := by kernel_rfl
  c143 := by kernel_rfl
  c145 := by kernel_rfl
  c167 := by kernel_rfl
  c168 := by kernel_rfl
  c171 := by kernel_rfl
  c173 := by kernel_rfl
  c175 := by kernel_rfl
  c210 := by kernel_rfl
  c212 := by kernel_rfl
  c213 := by kernel_rfl
  c232 := by kernel_rfl
  c233 := by kernel_rfl }

def cutLay_ren : Go.Shelf.Ren := ⟨fun | 145 => 58 | 220 => 86 | 219 => 96 | 217 => 111 | 225 => 112 | 224 => 113 | 267 => 114 | 266 => 129 | 314 => 130 | n => n, fun | 9 => 9 | 4 => 4 | 59 => 77 | 3 => 3 | 5 => 5 | 46 => 108 | 146 => 153 | 51 => 152 | n => n, fun | 1 => 0 | n => n⟩
theorem cutLay : Go.Proofs.Lays.n145 Tryz.prog cutLay_ren := {
  mixed := by kernel_rfl
  f145 := Tryz.func58.trans (congrArg some (by kernel_rfl))
  f217 := Tryz.func111.trans (congrArg some (by kernel_rfl))
  f219 := Tryz.func96.trans (congrArg some (by kernel_rfl))
  f220 := Tryz.func86.trans (congrArg some (by kernel_rfl))
  f224 := Tryz.func113.trans (congrArg some (by kernel_rfl))
  f225 := Tryz.func112.trans (congrArg some (by kernel_rfl))
  f266 := Tryz.func129.trans (congrArg some (by kernel_rfl))
  f267 := Tryz.func114.trans (congrArg some (by kernel_rfl))
  f314 := Tryz.func130.trans (congrArg some (by kernel_rfl))
  t3 := Tryz.underlying3
  a3 := Tryz.isAgg3
  z3 := Tryz.sizeOf3
  v3 := Tryz.zeroValue3
  t4 := Tryz.underlying4
  a4 := Tryz.isAgg4
  z4 := Tryz.sizeOf4
  v4 := Tryz.zeroValue4
  t5 := Tryz.underlying5
  a5 := Tryz.isAgg5
  z5 := Tryz.sizeOf5
  v5 := Tryz.zeroValue5
  t9 := Tryz.underlying9
  a9 := Tryz.isAgg9
  z9 := Tryz.sizeOf9
  v9 := Tryz.zeroValue9
  t46 := Tryz.underlying108
  a46 := Tryz.isAgg108
  z46 := Tryz.sizeOf108
  v46 := Tryz.zeroValue108
  t51 := Tryz.underlying152
  a51 := Tryz.isAgg152
  z51 := Tryz.sizeOf152
  v51 := Tryz.zeroValue152
  t59 := Tryz.underlying77
  a59 := Tryz.isAgg77
  z59 := Tryz.sizeOf77
  v59 := Tryz.zeroValue77
  t146 := Tryz.underlying153
  a146 := Tryz.isAgg153
  z146 := Tryz.sizeOf153
  v146 := Tryz.zeroValue153
  g1 := by kernel_rfl }

abbrev bStr (l : List UInt8) : Value := .string ⟨l.toArray⟩
theorem c_FormatInt {n : Int} (h0 : -9223372036854775808 ≤ n) (h1 : n ≤ 9223372036854775807) : Pure Tryz.prog n_strconv_FormatInt [ii n, ii 10] (bStr (itoa n)) :=
  ⟨fn_strconv_FormatInt.enters, rfl, rfl, fun w hl => (Any.strconv_FormatInt_10 fmtLay n h0 h1 w hl.tab).mono fun e w' ⟨he, k, os, hw⟩ => ⟨he, hw ▸ ⟨rfl, rfl, rfl, by simp [Go.Sort.grow], fun b hb => by simp [Go.Sort.grow, World.drewN, Array.getElem?_append_left, hb]⟩⟩⟩
theorem c_Cut {s : ByteArray} (hs : s.size < 4294967281) : Pure Tryz.prog n_strings_Cut [.string s, .string ⟨#[44]⟩] (.tuple #[bStr (cut s.data.toList [44]).1, bStr (cut s.data.toList [44]).2.1, bb (cut s.data.toList [44]).2.2]) :=
  ⟨fn_strings_Cut.enters, rfl, rfl, fun w hl => by
    obtain ⟨m, hm⟩ := hl.mx
    exact (Any.strings_Cut cutLay s ⟨#[44]⟩ m w hs hm).mono fun e w' ⟨he, n, hw⟩ => ⟨he, hw ▸ ⟨rfl, rfl, rfl, Nat.le_refl _, fun _ _ => rfl⟩⟩⟩
theorem c_ParseInt {s : ByteArray} (hs : s.size ≤ 4294967296) : CallOK Tryz.prog n_strconv_ParseInt [.string s, ii 10, ii 64] [] (fun v m_ => ∃ u, (u = .nilIface ∨ ∃ N, u = .iface (pintLay_ren.t 168) (.pointer (some ⟨N, 0, none⟩))) ∧ v = .tuple #[ii (pint s.data.toList), u] ∧ m_ = []) :=
  ⟨fn_strconv_ParseInt.enters, fun w0 ρ w hm hargs => by
    have hl := hm.now
    rcases h : parseIntB 64 s.data.toList with v | _ | _
    · refine (Any.strconv_ParseInt_10_at64_ok pintLay s (by omega) v h w).mono fun e w' ⟨he, hw⟩ => ?_
      have hb : Below w.heap.size w w' := by
        rcases hw with rfl | ⟨t, rfl⟩
        · exact Below.refl _ _
        · exact Lib.bytesWorld_below _ _ _
      refine ⟨.tuple #[ii (pint s.data.toList), .nilIface], [], [], ?_, ?_, by rw [List.append_nil]; exact hm.below hb, _, .inl rfl, rfl, rfl⟩
      · rw [he]; unfold pint; rw [h]; rfl
      · intro v hv; simp at hv; rcases hv with rfl | rfl <;> trivial
    · obtain ⟨tp, p, hv⟩ := hl.syn
      refine (Any.strconv_ParseInt_10_at64_syntax pintLay s (by omega) h _ w hv (.inr ⟨tp, p, rfl⟩)).mono fun e w' ⟨N, he, _, _, hb⟩ => ?_
      refine ⟨.tuple #[ii (pint s.data.toList), .iface (pintLay_ren.t 168) (.pointer (some ⟨N, 0, none⟩))], [], [], ?_, ?_, by rw [List.append_nil]; exact hm.below hb, _, .inr ⟨N, rfl⟩, rfl, rfl⟩
      · rw [he]; unfold pint; rw [h]; rfl
      · intro v hv; simp at hv; rcases hv with rfl | rfl <;> trivial
    · obtain ⟨tp, p, hv⟩ := hl.rng
      refine (Any.strconv_ParseInt_10_at64_range pintLay s (by omega) h _ w hv (.inr ⟨tp, p, rfl⟩)).mono fun e w' ⟨N, he, _, _, hb⟩ => ?_
      refine ⟨.tuple #[ii (pint s.data.toList), .iface (pintLay_ren.t 168) (.pointer (some ⟨N, 0, none⟩))], [], [], ?_, ?_, by rw [List.append_nil]; exact hm.below hb, _, .inr ⟨N, rfl⟩, rfl, rfl⟩
      · rw [he]; unfold pint; rw [h]; rfl
      · intro v hv; simp at hv; rcases hv with rfl | rfl <;> trivial⟩

end Go.Proofs.YtlkbfpklhncfbaaGreatDoor
end

section
/-
  Contracts of functions of the program (printed by a program of this work; Lean checks each).
  Conditions: as each contract states.
-/
namespace Go.Proofs.YtlkbfpklhncfbaaGreatDoor
open Go.Ev Go.RowKit
set_option maxRecDepth 100000
set_option linter.unusedVariables false
set_option linter.unusedSimpArgs false

attribute [local irreducible] isPtF Lib.itoa Lib.cut pint ptxt

theorem c_decimal {n : Int} (h0 : -9223372036854775808 ≤ n) (h1 : n ≤ 9223372036854775807) : Pure Tryz.prog n_impl_decimal [ii n] (bStr (Lib.itoa n)) := by
  refine pure_of good fn_impl_decimal rfl rfl ?_
  conv => whnf
  all_goals (repeat' first
    | (refine (c_FormatInt h0 h1).call ?_; conv => whnf)
    | (refine (c_FormatInt h0 h1).quiet ?_; conv => whnf)
    | (refine StoreK.mk rfl ?_; conv => whnf)
    | exact join_same
    | exact (by assumption : (_ : Bool) = (_ : Bool))
    | (refine br_true (by assumption) ?_; conv => whnf)
    | (refine br_false (by assumption) ?_; conv => whnf)
    | (refine br_not ?_; conv => whnf)
    | (refine br_code ?_; conv => whnf)
    | (with_reducible refine br_and ?_; conv => whnf)
    | (with_reducible refine br_or ?_; conv => whnf)
    | (refine br_eq2 ?_; conv => whnf)
    | (refine draw_auto (by decide +kernel) ?_; conv => whnf)
    | (refine draw_asg (by decide +kernel) ?_; conv => whnf)
    | (refine draw_st (by decide +kernel) ?_; conv => whnf)
    | (refine draw_call (by decide +kernel) ?_; conv => whnf)
    | (refine enter_same (loop_n 12 ?_); conv => whnf)
    | (refine next_same ?_; conv => whnf)
    | (refine mapK_row (by assumption) ?_; conv => whnf)
    | (refine mapK_plain (Plain.of rfl) ?_; conv => whnf)
    | (refine mapK_lit ?_; conv => whnf)
    | (refine br_split (fun _ => ?_) (fun _ => ?_) <;> conv => whnf)
    | exact (rfl : (_ : Value) = _)
    | (simp only [*]; exact (rfl : (_ : Value) = _))
    | (simp [*]; done))

theorem c_Point_text {a b : Int} (h : isPtF a b = true) : Pure Tryz.prog n_impl_Point_text [pt a b] (bStr (ptxt (a, b))) := by
  have hb_ := pt_bd h; have l1_ := itoa_len hb_.1; have l2_ := itoa_len hb_.2; refine pure_of good fn_impl_Point_text rfl rfl ?_
  conv => whnf
  all_goals (repeat' first
    | (refine (c_decimal (n := a) (by omega) (by omega)).call ?_; conv => whnf)
    | (refine (c_decimal (n := a) (by omega) (by omega)).quiet ?_; conv => whnf)
    | (refine (c_decimal (n := b) (by omega) (by omega)).call ?_; conv => whnf)
    | (refine (c_decimal (n := b) (by omega) (by omega)).quiet ?_; conv => whnf)
    | (refine AddS.mk (by rw [bytes_size]; simp [ByteArray.size]; omega) ?_; conv => whnf)
    | exact congrArg Value.string txt_cat
    | (refine StoreK.mk rfl ?_; conv => whnf)
    | exact join_same
    | exact (by assumption : (_ : Bool) = (_ : Bool))
    | (refine br_true (by assumption) ?_; conv => whnf)
    | (refine br_false (by assumption) ?_; conv => whnf)
    | (refine br_not ?_; conv => whnf)
    | (refine br_code ?_; conv => whnf)
    | (with_reducible refine br_and ?_; conv => whnf)
    | (with_reducible refine br_or ?_; conv => whnf)
    | (refine br_eq2 ?_; conv => whnf)
    | (refine draw_auto (by decide +kernel) ?_; conv => whnf)
    | (refine draw_asg (by decide +kernel) ?_; conv => whnf)
    | (refine draw_st (by decide +kernel) ?_; conv => whnf)
    | (refine draw_call (by decide +kernel) ?_; conv => whnf)
    | (refine enter_same (loop_n 12 ?_); conv => whnf)
    | (refine next_same ?_; conv => whnf)
    | (refine mapK_row (by assumption) ?_; conv => whnf)
    | (refine mapK_plain (Plain.of rfl) ?_; conv => whnf)
    | (refine mapK_lit ?_; conv => whnf)
    | (refine br_split (fun _ => ?_) (fun _ => ?_) <;> conv => whnf)
    | exact (rfl : (_ : Value) = _)
    | (simp only [*]; exact (rfl : (_ : Value) = _))
    | (simp [*]; done))

theorem c_impl_PointText_ok {a b : Int} (h : isPtF a b = true) : Pure Tryz.prog n_impl_PointText [pt a b] (t2 (bStr (ptxt (a, b))) (ii 0)) := by
  refine pure_of good fn_impl_PointText rfl rfl ?_
  conv => whnf
  all_goals (repeat' first
    | (refine (c_Point_text h).call ?_; conv => whnf)
    | (refine (c_Point_text h).quiet ?_; conv => whnf)
    | (refine StoreK.mk rfl ?_; conv => whnf)
    | exact join_same
    | exact (by assumption : (_ : Bool) = (_ : Bool))
    | (refine br_true (by assumption) ?_; conv => whnf)
    | (refine br_false (by assumption) ?_; conv => whnf)
    | (refine br_not ?_; conv => whnf)
    | (refine br_code ?_; conv => whnf)
    | (with_reducible refine br_and ?_; conv => whnf)
    | (with_reducible refine br_or ?_; conv => whnf)
    | (refine br_eq2 ?_; conv => whnf)
    | (refine c_impl_IsPoint.call ?_; conv => whnf)
    | (refine c_impl_IsPoint.quiet ?_; conv => whnf)
    | (refine draw_auto (by decide +kernel) ?_; conv => whnf)
    | (refine draw_asg (by decide +kernel) ?_; conv => whnf)
    | (refine draw_st (by decide +kernel) ?_; conv => whnf)
    | (refine draw_call (by decide +kernel) ?_; conv => whnf)
    | (refine enter_same (loop_n 12 ?_); conv => whnf)
    | (refine next_same ?_; conv => whnf)
    | (refine mapK_row (by assumption) ?_; conv => whnf)
    | (refine mapK_plain (Plain.of rfl) ?_; conv => whnf)
    | (refine mapK_lit ?_; conv => whnf)
    | (refine br_split (fun _ => ?_) (fun _ => ?_) <;> conv => whnf)
    | exact (rfl : (_ : Value) = _)
    | (simp only [*]; exact (rfl : (_ : Value) = _))
    | (simp [*]; done))

theorem c_impl_PointText_no {a b : Int} (h : isPtF a b = false) : Pure Tryz.prog n_impl_PointText [pt a b] (t2 (.string ⟨#[]⟩) (ii 1)) := by
  refine pure_of good fn_impl_PointText rfl rfl ?_
  conv => whnf
  all_goals (repeat' first
    | (refine StoreK.mk rfl ?_; conv => whnf)
    | exact join_same
    | exact (by assumption : (_ : Bool) = (_ : Bool))
    | (refine br_true (by assumption) ?_; conv => whnf)
    | (refine br_false (by assumption) ?_; conv => whnf)
    | (refine br_not ?_; conv => whnf)
    | (refine br_code ?_; conv => whnf)
    | (with_reducible refine br_and ?_; conv => whnf)
    | (with_reducible refine br_or ?_; conv => whnf)
    | (refine br_eq2 ?_; conv => whnf)
    | (refine c_impl_IsPoint.call ?_; conv => whnf)
    | (refine c_impl_IsPoint.quiet ?_; conv => whnf)
    | (refine draw_auto (by decide +kernel) ?_; conv => whnf)
    | (refine draw_asg (by decide +kernel) ?_; conv => whnf)
    | (refine draw_st (by decide +kernel) ?_; conv => whnf)
    | (refine draw_call (by decide +kernel) ?_; conv => whnf)
    | (refine enter_same (loop_n 12 ?_); conv => whnf)
    | (refine next_same ?_; conv => whnf)
    | (refine mapK_row (by assumption) ?_; conv => whnf)
    | (refine mapK_plain (Plain.of rfl) ?_; conv => whnf)
    | (refine mapK_lit ?_; conv => whnf)
    | (refine br_split (fun _ => ?_) (fun _ => ?_) <;> conv => whnf)
    | exact (rfl : (_ : Value) = _)
    | (simp only [*]; exact (rfl : (_ : Value) = _))
    | (simp [*]; done))

theorem c_ParseInt_x {l : List UInt8} {x : Int} (hl : l.length ≤ 4294967296) (e : pint l = x) : CallOK Tryz.prog n_strconv_ParseInt [bStr l, ii 10, ii 64] [] (fun v m_ => ∃ u, (u = .nilIface ∨ ∃ N, u = .iface (pintLay_ren.t 168) (.pointer (some ⟨N, 0, none⟩))) ∧ v = .tuple #[ii x, u] ∧ m_ = []) := by
  have := c_ParseInt (s := ⟨l.toArray⟩) (by rw [bytes_size]; exact hl)
  rw [show pint (⟨l.toArray⟩ : ByteArray).data.toList = x from e] at this
  exact this

set_option maxHeartbeats 1000000 in
theorem c_impl_ParsePoint_ok {s : ByteArray} {p : Int × Int} (hs : s.size < 4294967281) (hr : readI s.data.toList = some p) : CallOK Tryz.prog n_impl_ParsePoint [.string s] [] (fun v m_ => v = t2 (pt p.1 p.2) (ii 0) ∧ m_ = []) := by
  obtain ⟨e1_, e2_, h_, ht_⟩ := readI_some hr; refine callOK_ofF good fn_impl_ParsePoint ?_
  conv => whnf
  all_goals (repeat' first
    | (refine (c_Cut hs).call ?_; conv => whnf)
    | (refine (c_Cut hs).quiet ?_; conv => whnf)
    | (refine CallOK.useR (c_ParseInt_x (l := (Lib.cut s.data.toList [44]).1) (by have := cut_len s.data.toList; have e_ : s.size = s.data.toList.length := (by simp); omega) e1_) [] rfl rfl rfl trivial (fun v_ mem_ hR => ?_); obtain ⟨u_, (rfl | ⟨N_, rfl⟩), rfl, rfl⟩ := hR <;> (refine ⟨rfl, ?_⟩; conv => whnf))
    | (refine CallOK.useR (c_ParseInt_x (l := (Lib.cut s.data.toList [44]).2.1) (by have := cut_len s.data.toList; have e_ : s.size = s.data.toList.length := (by simp); omega) e2_) [] rfl rfl rfl trivial (fun v_ mem_ hR => ?_); obtain ⟨u_, (rfl | ⟨N_, rfl⟩), rfl, rfl⟩ := hR <;> (refine ⟨rfl, ?_⟩; conv => whnf))
    | (refine (c_Point_text (by assumption)).call ?_; conv => whnf)
    | (refine (c_Point_text (by assumption)).quiet ?_; conv => whnf)
    | (refine br_true (same_txt ht_) ?_; conv => whnf)
    | exact out_forget [] ⟨rfl, rfl⟩ rfl (okB2_spec rfl) trivial rfl rfl
    | (refine StoreK.mk rfl ?_; conv => whnf)
    | exact join_same
    | exact (by assumption : (_ : Bool) = (_ : Bool))
    | (refine br_true (by assumption) ?_; conv => whnf)
    | (refine br_false (by assumption) ?_; conv => whnf)
    | (refine br_not ?_; conv => whnf)
    | (refine br_code ?_; conv => whnf)
    | (with_reducible refine br_and ?_; conv => whnf)
    | (with_reducible refine br_or ?_; conv => whnf)
    | (refine br_eq2 ?_; conv => whnf)
    | (refine c_impl_IsPoint.call ?_; conv => whnf)
    | (refine c_impl_IsPoint.quiet ?_; conv => whnf)
    | (refine draw_auto (by decide +kernel) ?_; conv => whnf)
    | (refine draw_asg (by decide +kernel) ?_; conv => whnf)
    | (refine draw_st (by decide +kernel) ?_; conv => whnf)
    | (refine draw_call (by decide +kernel) ?_; conv => whnf)
    | (refine enter_same (loop_n 12 ?_); conv => whnf)
    | (refine next_same ?_; conv => whnf)
    | (refine mapK_row (by assumption) ?_; conv => whnf)
    | (refine mapK_plain (Plain.of rfl) ?_; conv => whnf)
    | (refine mapK_lit ?_; conv => whnf)
    | (refine br_split (fun _ => ?_) (fun _ => ?_) <;> conv => whnf)
    | exact (rfl : (_ : Value) = _)
    | (simp only [*]; exact (rfl : (_ : Value) = _))
    | (simp [*]; done))

set_option maxHeartbeats 1000000 in
theorem c_impl_ParsePoint_no {s : ByteArray} (hs : s.size < 4294967281) (hr : readI s.data.toList = none) : CallOK Tryz.prog n_impl_ParsePoint [.string s] [] (fun v m_ => v = t2 (pt 0 0) (ii 6) ∧ m_ = []) := by
  refine callOK_ofF good fn_impl_ParsePoint ?_
  conv => whnf
  all_goals (repeat' first
    | (refine (c_Cut hs).call ?_; conv => whnf)
    | (refine (c_Cut hs).quiet ?_; conv => whnf)
    | (refine CallOK.useR (c_ParseInt_x (l := (Lib.cut s.data.toList [44]).1) (by have := cut_len s.data.toList; have e_ : s.size = s.data.toList.length := (by simp); omega) rfl) [] rfl rfl rfl trivial (fun v_ mem_ hR => ?_); obtain ⟨u_, (rfl | ⟨N_, rfl⟩), rfl, rfl⟩ := hR <;> (refine ⟨rfl, ?_⟩; conv => whnf))
    | (refine CallOK.useR (c_ParseInt_x (l := (Lib.cut s.data.toList [44]).2.1) (by have := cut_len s.data.toList; have e_ : s.size = s.data.toList.length := (by simp); omega) rfl) [] rfl rfl rfl trivial (fun v_ mem_ hR => ?_); obtain ⟨u_, (rfl | ⟨N_, rfl⟩), rfl, rfl⟩ := hR <;> (refine ⟨rfl, ?_⟩; conv => whnf))
    | (refine (c_Point_text (by assumption)).call ?_; conv => whnf)
    | (refine (c_Point_text (by assumption)).quiet ?_; conv => whnf)
    | (refine br_false (other_txt (readI_none hr (by assumption))) ?_; conv => whnf)
    | exact out_forget [] ⟨rfl, rfl⟩ rfl (okB2_spec rfl) trivial rfl rfl
    | (refine StoreK.mk rfl ?_; conv => whnf)
    | exact join_same
    | exact (by assumption : (_ : Bool) = (_ : Bool))
    | (refine br_true (by assumption) ?_; conv => whnf)
    | (refine br_false (by assumption) ?_; conv => whnf)
    | (refine br_not ?_; conv => whnf)
    | (refine br_code ?_; conv => whnf)
    | (with_reducible refine br_and ?_; conv => whnf)
    | (with_reducible refine br_or ?_; conv => whnf)
    | (refine br_eq2 ?_; conv => whnf)
    | (refine c_impl_IsPoint.call ?_; conv => whnf)
    | (refine c_impl_IsPoint.quiet ?_; conv => whnf)
    | (refine draw_auto (by decide +kernel) ?_; conv => whnf)
    | (refine draw_asg (by decide +kernel) ?_; conv => whnf)
    | (refine draw_st (by decide +kernel) ?_; conv => whnf)
    | (refine draw_call (by decide +kernel) ?_; conv => whnf)
    | (refine enter_same (loop_n 12 ?_); conv => whnf)
    | (refine next_same ?_; conv => whnf)
    | (refine mapK_row (by assumption) ?_; conv => whnf)
    | (refine mapK_plain (Plain.of rfl) ?_; conv => whnf)
    | (refine mapK_lit ?_; conv => whnf)
    | (refine br_split (fun _ => ?_) (fun _ => ?_) <;> conv => whnf)
    | exact (rfl : (_ : Value) = _)
    | (simp only [*]; exact (rfl : (_ : Value) = _))
    | (simp [*]; done))

end Go.Proofs.YtlkbfpklhncfbaaGreatDoor
end

section
/-
  Contracts of functions of the program (printed by a program of this work; Lean checks each).
  Conditions: as each contract states.
-/
namespace Go.Proofs.YtlkbfpklhncfbaaGreatDoor
open Go.Ev Go.RowKit
set_option maxRecDepth 100000
set_option linter.unusedVariables false
set_option linter.unusedSimpArgs false

attribute [local irreducible] isPtF Lib.itoa Lib.cut pint ptxt

theorem dig_str {m : Nat} (h : m < 10) : (⟨#[UInt8.ofNat (IntKind.u8.wrap (w64 (48 + (m : Int)))).toNat]⟩ : ByteArray) = ⟨[UInt8.ofNat (48 + m)].toArray⟩ := by
  have e : (IntKind.u8.wrap (w64 (48 + (m : Int)))).toNat = 48 + m := by
    rw [w64_def, show ((48 + (m : Int) + 9223372036854775808) % 18446744073709551616 - 9223372036854775808 : Int) = 48 + m by omega]
    unfold IntKind.wrap IntKind.signed IntKind.bits
    simp
    omega
  rw [e]
theorem itoa_small {m : Nat} (h : m < 10) : Lib.itoa (m : Int) = [UInt8.ofNat (48 + m)] := by
  unfold Lib.itoa; rw [if_neg (by omega), Int.toNat_natCast, dec_small h]
theorem itoa_big {m : Nat} (h : ¬ m < 10) : Lib.itoa (m : Int) = Lib.itoa ((m / 10 : Nat) : Int) ++ [UInt8.ofNat (48 + m % 10)] := by
  unfold Lib.itoa; rw [if_neg (by omega), if_neg (by omega), Int.toNat_natCast, Int.toNat_natCast, dec_big h]

theorem dec_arg {m : Nat} (h : m ≤ 1000000) : w64 (Int.tdiv (m : Int) 10) = ((m / 10 : Nat) : Int) := by
  rw [w64_def, Int.tdiv_eq_ediv_of_nonneg (by omega)]; omega
theorem dec_dig10 {m : Nat} (h : m ≤ 1000000) : (⟨#[UInt8.ofNat (IntKind.u8.wrap (w64 (48 + Int.tmod (m : Int) 10))).toNat]⟩ : ByteArray) = ⟨[UInt8.ofNat (48 + m % 10)].toArray⟩ := by
  rw [Int.tmod_eq_emod_of_nonneg (by omega), show ((m : Int) % 10) = ((m % 10 : Nat) : Int) by omega]
  exact dig_str (by omega)
theorem dec_ih {m : Nat} (h : m ≤ 1000000) (ih : Ev.Pure Tryz.prog n_spec_l01Dec [ii ((m / 10 : Nat) : Int)] (bStr (Lib.itoa ((m / 10 : Nat) : Int)))) : Ev.Pure Tryz.prog n_spec_l01Dec [ii (w64 (Int.tdiv (m : Int) 10))] (bStr (Lib.itoa ((m / 10 : Nat) : Int))) := by rw [dec_arg h]; exact ih
theorem dec_cat {m : Nat} (h1 : m ≤ 1000000) (h : ¬ m < 10) : (⟨(Lib.itoa ((m / 10 : Nat) : Int)).toArray⟩ : ByteArray) ++ ⟨#[UInt8.ofNat (IntKind.u8.wrap (w64 (48 + Int.tmod (m : Int) 10))).toNat]⟩ = ⟨(Lib.itoa (m : Int)).toArray⟩ := by
  rw [dec_dig10 h1, bytes_app, ← itoa_big h]

theorem dec_neg {n : Int} (hn : ¬ 0 ≤ n) (h0 : -1000000 ≤ n) (h : ∀ m : Nat, m ≤ 1000000 → Ev.Pure Tryz.prog n_spec_l01Dec [ii (m : Int)] (bStr (Lib.itoa (m : Int)))) : Ev.Pure Tryz.prog n_spec_l01Dec [ii (w64 (0 - n))] (bStr (Lib.itoa (-n))) := by
  have e : w64 (0 - n) = ((-n).toNat : Int) := by rw [w64_def]; omega
  have e2 : (-n : Int) = ((-n).toNat : Int) := by omega
  rw [e, e2]
  have := h (-n).toNat (by omega)
  rw [Int.toNat_natCast]
  exact this
theorem dec_ncat {n : Int} (hn : ¬ 0 ≤ n) : (⟨#[45]⟩ : ByteArray) ++ ⟨(Lib.itoa (-n)).toArray⟩ = ⟨(Lib.itoa n).toArray⟩ := by
  rw [show (⟨#[45]⟩ : ByteArray) = ⟨[45].toArray⟩ from rfl, bytes_app]
  unfold Lib.itoa
  rw [if_neg (by omega), if_pos (by omega), show (-n).toNat = n.natAbs by omega]
  rfl

theorem c_spec_l01Dec_pos {m : Nat} (h1 : m ≤ 1000000) : Pure Tryz.prog n_spec_l01Dec [ii (m : Int)] (bStr (Lib.itoa (m : Int))) := by
  induction m using Nat.strongRecOn with
  | _ m ih =>
  refine pure_of good fn_spec_l01Dec rfl rfl ?_
  conv => whnf
  by_cases h10 : m < 10
  · refine br_true (decide_eq_true (by omega)) ?_
    conv => whnf
    exact congrArg Value.string ((dig_str h10).trans (by rw [itoa_small h10]))
  refine br_false ?_ ?_
  · exact decide_eq_false (by omega)
  conv => whnf
  have ih' := dec_ih h1 (ih (m / 10) (by omega) (by omega))
  have hl_ := itoa_len (n := ((m / 10 : Nat) : Int)) ⟨by omega, by omega⟩
  all_goals (repeat' first
    | (refine draw_pt (.take 0 (.take 1 (.take 3 (.take 4 (.take 5 (.join [6, 7, 2, 8, 9] (.duo 2 (.solo 6 (.solo 7 (.solo 8 (.take 9 .done)))) 6 (.duo 2 (.solo 7 (.solo 8 (.take 9 .done))) 7 (.duo 2 (.solo 8 (.take 9 .done)) 8 (.solo 2 (.take 9 .done))))) (.solo 10 .done))))))) (by decide +kernel) ?_; conv => whnf)
    | (refine And.intro ?_ ?_ <;> conv => whnf)
    | (refine ih'.call ?_; conv => whnf)
    | (refine ih'.quiet ?_; conv => whnf)
    | (refine AddS.mk (by rw [bytes_size, show ∀ x_, (⟨#[x_]⟩ : ByteArray).size = 1 from fun _ => rfl]; omega) ?_; conv => whnf)
    | exact congrArg Value.string (dec_cat h1 h10)
    | (refine StoreK.mk rfl ?_; conv => whnf)
    | exact join_same
    | exact (by assumption : (_ : Bool) = (_ : Bool))
    | (refine br_true (by assumption) ?_; conv => whnf)
    | (refine br_false (by assumption) ?_; conv => whnf)
    | (refine br_not ?_; conv => whnf)
    | (refine br_code ?_; conv => whnf)
    | (with_reducible refine br_and ?_; conv => whnf)
    | (with_reducible refine br_or ?_; conv => whnf)
    | (refine br_eq2 ?_; conv => whnf)
    | (refine draw_auto (by decide +kernel) ?_; conv => whnf)
    | (refine draw_asg (by decide +kernel) ?_; conv => whnf)
    | (refine draw_st (by decide +kernel) ?_; conv => whnf)
    | (refine draw_call (by decide +kernel) ?_; conv => whnf)
    | (refine enter_same (loop_n 12 ?_); conv => whnf)
    | (refine next_same ?_; conv => whnf)
    | (refine mapK_row (by assumption) ?_; conv => whnf)
    | (refine mapK_plain (Plain.of rfl) ?_; conv => whnf)
    | (refine mapK_lit ?_; conv => whnf)
    | (refine br_split (fun _ => ?_) (fun _ => ?_) <;> conv => whnf)
    | exact (rfl : (_ : Value) = _)
    | (simp only [*]; exact (rfl : (_ : Value) = _))
    | (simp [*]; done))

theorem c_spec_l01Dec {n : Int} (h0 : -1000000 ≤ n) (h1 : n ≤ 1000000) : Pure Tryz.prog n_spec_l01Dec [ii n] (bStr (Lib.itoa n)) := by
  by_cases hn : 0 ≤ n
  · obtain ⟨m, rfl⟩ := Int.eq_ofNat_of_zero_le hn
    exact c_spec_l01Dec_pos (by omega)
  have hc_ := dec_neg hn h0 (fun m hm => c_spec_l01Dec_pos hm)
  have hl_ := itoa_len (n := -n) ⟨by omega, by omega⟩
  refine pure_of good fn_spec_l01Dec rfl rfl ?_
  conv => whnf
  all_goals (repeat' first
    | (refine br_true (decide_eq_true (show n < 0 by omega)) ?_; conv => whnf)
    | (refine hc_.call ?_; conv => whnf)
    | (refine hc_.quiet ?_; conv => whnf)
    | (refine AddS.mk (by have e1_ := bytes_size (Lib.itoa (-n)); have e2_ : (⟨#[45]⟩ : ByteArray).size = 1 := rfl; omega) ?_; conv => whnf)
    | exact congrArg Value.string (dec_ncat hn)
    | (refine StoreK.mk rfl ?_; conv => whnf)
    | exact join_same
    | exact (by assumption : (_ : Bool) = (_ : Bool))
    | (refine br_true (by assumption) ?_; conv => whnf)
    | (refine br_false (by assumption) ?_; conv => whnf)
    | (refine br_not ?_; conv => whnf)
    | (refine br_code ?_; conv => whnf)
    | (with_reducible refine br_and ?_; conv => whnf)
    | (with_reducible refine br_or ?_; conv => whnf)
    | (refine br_eq2 ?_; conv => whnf)
    | (refine draw_auto (by decide +kernel) ?_; conv => whnf)
    | (refine draw_asg (by decide +kernel) ?_; conv => whnf)
    | (refine draw_st (by decide +kernel) ?_; conv => whnf)
    | (refine draw_call (by decide +kernel) ?_; conv => whnf)
    | (refine enter_same (loop_n 12 ?_); conv => whnf)
    | (refine next_same ?_; conv => whnf)
    | (refine mapK_row (by assumption) ?_; conv => whnf)
    | (refine mapK_plain (Plain.of rfl) ?_; conv => whnf)
    | (refine mapK_lit ?_; conv => whnf)
    | (refine br_split (fun _ => ?_) (fun _ => ?_) <;> conv => whnf)
    | exact (rfl : (_ : Value) = _)
    | (simp only [*]; exact (rfl : (_ : Value) = _))
    | (simp [*]; done))

theorem c_spec_l01Text {a b : Int} (h : isPtF a b = true) : Pure Tryz.prog n_spec_l01Text [pt a b] (bStr (ptxt (a, b))) := by
  have hb_ := pt_bd h; have l1_ := itoa_len hb_.1; have l2_ := itoa_len hb_.2; refine pure_of good fn_spec_l01Text rfl rfl ?_
  conv => whnf
  all_goals (repeat' first
    | (refine (c_spec_l01Dec (n := a) (by omega) (by omega)).call ?_; conv => whnf)
    | (refine (c_spec_l01Dec (n := a) (by omega) (by omega)).quiet ?_; conv => whnf)
    | (refine (c_spec_l01Dec (n := b) (by omega) (by omega)).call ?_; conv => whnf)
    | (refine (c_spec_l01Dec (n := b) (by omega) (by omega)).quiet ?_; conv => whnf)
    | (refine AddS.mk (by rw [bytes_size]; simp [ByteArray.size]; omega) ?_; conv => whnf)
    | exact congrArg Value.string txt_cat
    | (refine StoreK.mk rfl ?_; conv => whnf)
    | exact join_same
    | exact (by assumption : (_ : Bool) = (_ : Bool))
    | (refine br_true (by assumption) ?_; conv => whnf)
    | (refine br_false (by assumption) ?_; conv => whnf)
    | (refine br_not ?_; conv => whnf)
    | (refine br_code ?_; conv => whnf)
    | (with_reducible refine br_and ?_; conv => whnf)
    | (with_reducible refine br_or ?_; conv => whnf)
    | (refine br_eq2 ?_; conv => whnf)
    | (refine draw_auto (by decide +kernel) ?_; conv => whnf)
    | (refine draw_asg (by decide +kernel) ?_; conv => whnf)
    | (refine draw_st (by decide +kernel) ?_; conv => whnf)
    | (refine draw_call (by decide +kernel) ?_; conv => whnf)
    | (refine enter_same (loop_n 12 ?_); conv => whnf)
    | (refine next_same ?_; conv => whnf)
    | (refine mapK_row (by assumption) ?_; conv => whnf)
    | (refine mapK_plain (Plain.of rfl) ?_; conv => whnf)
    | (refine mapK_lit ?_; conv => whnf)
    | (refine br_split (fun _ => ?_) (fun _ => ?_) <;> conv => whnf)
    | exact (rfl : (_ : Value) = _)
    | (simp only [*]; exact (rfl : (_ : Value) = _))
    | (simp [*]; done))

theorem c_spec_PointText_ok {a b : Int} (h : isPtF a b = true) : Pure Tryz.prog n_spec_PointText [pt a b] (t2 (bStr (ptxt (a, b))) (ii 0)) := by
  refine pure_of good fn_spec_PointText rfl rfl ?_
  conv => whnf
  all_goals (repeat' first
    | (refine (c_spec_l01Text h).call ?_; conv => whnf)
    | (refine (c_spec_l01Text h).quiet ?_; conv => whnf)
    | (refine StoreK.mk rfl ?_; conv => whnf)
    | exact join_same
    | exact (by assumption : (_ : Bool) = (_ : Bool))
    | (refine br_true (by assumption) ?_; conv => whnf)
    | (refine br_false (by assumption) ?_; conv => whnf)
    | (refine br_not ?_; conv => whnf)
    | (refine br_code ?_; conv => whnf)
    | (with_reducible refine br_and ?_; conv => whnf)
    | (with_reducible refine br_or ?_; conv => whnf)
    | (refine br_eq2 ?_; conv => whnf)
    | (refine c_spec_l01Is.call ?_; conv => whnf)
    | (refine c_spec_l01Is.quiet ?_; conv => whnf)
    | (refine draw_auto (by decide +kernel) ?_; conv => whnf)
    | (refine draw_asg (by decide +kernel) ?_; conv => whnf)
    | (refine draw_st (by decide +kernel) ?_; conv => whnf)
    | (refine draw_call (by decide +kernel) ?_; conv => whnf)
    | (refine enter_same (loop_n 12 ?_); conv => whnf)
    | (refine next_same ?_; conv => whnf)
    | (refine mapK_row (by assumption) ?_; conv => whnf)
    | (refine mapK_plain (Plain.of rfl) ?_; conv => whnf)
    | (refine mapK_lit ?_; conv => whnf)
    | (refine br_split (fun _ => ?_) (fun _ => ?_) <;> conv => whnf)
    | exact (rfl : (_ : Value) = _)
    | (simp only [*]; exact (rfl : (_ : Value) = _))
    | (simp [*]; done))

theorem c_spec_PointText_no {a b : Int} (h : isPtF a b = false) : Pure Tryz.prog n_spec_PointText [pt a b] (t2 (.string ⟨#[]⟩) (ii 1)) := by
  refine pure_of good fn_spec_PointText rfl rfl ?_
  conv => whnf
  all_goals (repeat' first
    | (refine StoreK.mk rfl ?_; conv => whnf)
    | exact join_same
    | exact (by assumption : (_ : Bool) = (_ : Bool))
    | (refine br_true (by assumption) ?_; conv => whnf)
    | (refine br_false (by assumption) ?_; conv => whnf)
    | (refine br_not ?_; conv => whnf)
    | (refine br_code ?_; conv => whnf)
    | (with_reducible refine br_and ?_; conv => whnf)
    | (with_reducible refine br_or ?_; conv => whnf)
    | (refine br_eq2 ?_; conv => whnf)
    | (refine c_spec_l01Is.call ?_; conv => whnf)
    | (refine c_spec_l01Is.quiet ?_; conv => whnf)
    | (refine draw_auto (by decide +kernel) ?_; conv => whnf)
    | (refine draw_asg (by decide +kernel) ?_; conv => whnf)
    | (refine draw_st (by decide +kernel) ?_; conv => whnf)
    | (refine draw_call (by decide +kernel) ?_; conv => whnf)
    | (refine enter_same (loop_n 12 ?_); conv => whnf)
    | (refine next_same ?_; conv => whnf)
    | (refine mapK_row (by assumption) ?_; conv => whnf)
    | (refine mapK_plain (Plain.of rfl) ?_; conv => whnf)
    | (refine mapK_lit ?_; conv => whnf)
    | (refine br_split (fun _ => ?_) (fun _ => ?_) <;> conv => whnf)
    | exact (rfl : (_ : Value) = _)
    | (simp only [*]; exact (rfl : (_ : Value) = _))
    | (simp [*]; done))

end Go.Proofs.YtlkbfpklhncfbaaGreatDoor
end

section
/-
  Contracts of functions of the program (printed by a program of this work; Lean checks each).
  Conditions: as each contract states.
-/
namespace Go.Proofs.YtlkbfpklhncfbaaGreatDoor
open Go.Ev Go.RowKit
set_option maxRecDepth 100000
set_option linter.unusedVariables false
set_option linter.unusedSimpArgs false

attribute [local irreducible] isPtF Lib.itoa Lib.cut pint ptxt numS foldD sgnV sgnB

set_option maxHeartbeats 1000000 in
theorem c_spec_l01Number {z : ByteArray}  : Pure Tryz.prog n_spec_l01Number [.string z] (ii (numS z.data.toList)) := by
  refine pure_of good fn_spec_l01Number rfl rfl ?_
  conv => whnf
  all_goals (repeat' first
    | exact numS_b1 (by assumption)
    | exact numS_b2 (by assumption)
    | exact numS_b3 (by assumption) (by assumption)
    | (refine br_true (hI.inside (by assumption)) ?_; conv => whnf)
    | exact hI.stop (by assumption)
    | exact hI.bad1 (by assumption) (by assumption)
    | exact hI.bad2 (by assumption) (by assumption)
    | (refine br_true (decide_eq_true ⟨by omega, by have h_ : decide (_ > (1 : Int)) = true := (by assumption); have := of_decide_eq_true h_; omega⟩) ?_; conv => whnf)
    | (refine enter_forget [] (loop_rec (fun (s : Int × Int) => match s with | (i, n) => [.string z, wild, wild, ii n, ii i, wild, wild, wild, wild, wild, wild, wild, wild, wild, wild, wild, wild, wild, wild, wild, wild, wild, wild, wild, wild, wild, wild, wild, wild, wild, wild, wild, wild, wild, wild, wild, wild, wild, wild, wild, wild, wild, wild, wild, wild, wild, wild, wild]) (fun (s : Int × Int) => match s with | (i, n) => []) (fun (s : Int × Int) => match s with | (i, n) => ((z.size : Int) - i).toNat) (fun (s : Int × Int) => match s with | (i, n) => NumI z.data.toList i n) (0, 0) (by first | exact (NumI.start1 (by assumption) (by assumption) (by assumption)) | exact (NumI.start2 (by assumption) (by assumption) (by assumption))) ?_) (tmR_rfl rfl rfl) trivial rfl rfl; rintro fuel_ ⟨i, n⟩ hI IH; replace hI : NumI z.data.toList i n := hI; conv => whnf)
    | exact next_forget [] (IH (_, _) (by exact hI.next (by assumption) (by assumption) (by assumption)) (by exact hI.mu (by assumption))) (tmR_rfl rfl rfl) trivial rfl rfl
    | (refine StoreK.mk rfl ?_; conv => whnf)
    | exact join_same
    | exact (by assumption : (_ : Bool) = (_ : Bool))
    | (refine br_true (by assumption) ?_; conv => whnf)
    | (refine br_false (by assumption) ?_; conv => whnf)
    | (refine br_not ?_; conv => whnf)
    | (refine br_code ?_; conv => whnf)
    | (with_reducible refine br_and ?_; conv => whnf)
    | (with_reducible refine br_or ?_; conv => whnf)
    | (refine br_eq2 ?_; conv => whnf)
    | (refine draw_auto (by decide +kernel) ?_; conv => whnf)
    | (refine draw_asg (by decide +kernel) ?_; conv => whnf)
    | (refine draw_st (by decide +kernel) ?_; conv => whnf)
    | (refine draw_call (by decide +kernel) ?_; conv => whnf)
    | (refine next_same ?_; conv => whnf)
    | (refine mapK_row (by assumption) ?_; conv => whnf)
    | (refine mapK_plain (Plain.of rfl) ?_; conv => whnf)
    | (refine mapK_lit ?_; conv => whnf)
    | (refine br_split (fun _ => ?_) (fun _ => ?_) <;> conv => whnf)
    | exact (rfl : (_ : Value) = _)
    | (simp only [*]; exact (rfl : (_ : Value) = _))
    | (simp [*]; done))

set_option maxHeartbeats 1000000 in
theorem c_spec_l01Signed {z : ByteArray}  : Pure Tryz.prog n_spec_l01Signed [.string z] (t2 (ii (sgnV z.data.toList)) (bb (sgnB z.data.toList))) := by
  refine pure_of good fn_spec_l01Signed rfl rfl ?_
  conv => whnf
  all_goals (repeat' first
    | (refine br_true (zin0 (by assumption)) ?_; conv => whnf)
    | (refine br_true (zin1 (by assumption)) ?_; conv => whnf)
    | exact sgn1 (by assumption) (by assumption)
    | exact sgn23 (sgn2 (by assumption) (by assumption))
    | exact sgn23 (sgn3 (by assumption))
    | (refine StoreK.mk rfl ?_; conv => whnf)
    | exact join_same
    | exact (by assumption : (_ : Bool) = (_ : Bool))
    | (refine br_true (by assumption) ?_; conv => whnf)
    | (refine br_false (by assumption) ?_; conv => whnf)
    | (refine br_not ?_; conv => whnf)
    | (refine br_code ?_; conv => whnf)
    | (with_reducible refine br_and ?_; conv => whnf)
    | (with_reducible refine br_or ?_; conv => whnf)
    | (refine br_eq2 ?_; conv => whnf)
    | (refine c_spec_l01Number.call ?_; conv => whnf)
    | (refine c_spec_l01Number.quiet ?_; conv => whnf)
    | (refine draw_auto (by decide +kernel) ?_; conv => whnf)
    | (refine draw_asg (by decide +kernel) ?_; conv => whnf)
    | (refine draw_st (by decide +kernel) ?_; conv => whnf)
    | (refine draw_call (by decide +kernel) ?_; conv => whnf)
    | (refine enter_same (loop_n 12 ?_); conv => whnf)
    | (refine next_same ?_; conv => whnf)
    | (refine mapK_row (by assumption) ?_; conv => whnf)
    | (refine mapK_plain (Plain.of rfl) ?_; conv => whnf)
    | (refine mapK_lit ?_; conv => whnf)
    | (refine br_split (fun _ => ?_) (fun _ => ?_) <;> conv => whnf)
    | exact (rfl : (_ : Value) = _)
    | (simp only [*]; exact (rfl : (_ : Value) = _))
    | (simp [*]; done))

end Go.Proofs.YtlkbfpklhncfbaaGreatDoor
end

section
/-
  Contracts of functions of the program (printed by a program of this work; Lean checks each).
  Conditions: as each contract states.
-/
namespace Go.Proofs.YtlkbfpklhncfbaaGreatDoor
open Go.Ev Go.RowKit
set_option maxRecDepth 100000
set_option linter.unusedVariables false
set_option linter.unusedSimpArgs false

attribute [local irreducible] isPtF Lib.itoa Lib.cut pint ptxt numS foldD sgnV sgnB splitC tl

set_option maxHeartbeats 1000000 in
theorem c_spec_l01Split {z : ByteArray} {b : UInt8} (hz : z.size < 4294967281) : CallOK Tryz.prog n_spec_l01Split [.string z, .int .u8 (b.toNat : Int)] [] (fun v m_ => ∃ n c sp, Row (tl (splitC b z.data.toList)) sp n c 1 ∧ v = .slice (some ⟨0, 0, none⟩) n c ∧ m_ = [(tl (splitC b z.data.toList) ++ sp, some 9)]) := by
  refine callOK_ofF good fn_spec_l01Split ?_
  conv => whnf
  all_goals (repeat' first
    | (refine br_true (hI.inside (by assumption)) ?_; conv => whnf)
    | (refine br_true hI.upto ?_; conv => whnf)
    | (refine br_true hI.from_ ?_; conv => whnf)
    | (refine br_true hI.from2 ?_; conv => whnf)
    | (refine enter_forget [0] (loop_rec (fun (s : Int × Int × (List Value) × (List (List UInt8)) × (List Value) × Nat × Nat) => match s with | (a, i, L, ps, sp, n, c) => [.string z, .int .u8 (b.toNat : Int), wild, wild, wild, .slice (some ⟨0, 0, none⟩) n c, ii a, ii i, wild, wild, wild, wild, wild, wild, wild, wild, wild, wild, wild, wild, wild, wild, wild, wild, wild, wild, wild, wild, wild, wild, wild, wild, wild, wild, wild]) (fun (s : Int × Int × (List Value) × (List (List UInt8)) × (List Value) × Nat × Nat) => match s with | (a, i, L, ps, sp, n, c) => [(L ++ sp, some 9)]) (fun (s : Int × Int × (List Value) × (List (List UInt8)) × (List Value) × Nat × Nat) => match s with | (a, i, L, ps, sp, n, c) => ((z.size : Int) - i).toNat) (fun (s : Int × Int × (List Value) × (List (List UInt8)) × (List Value) × Nat × Nat) => match s with | (a, i, L, ps, sp, n, c) => SplI z b a i L ps sp n c) (0, 0, [], [], [], 0, 0) (SplI.start z b) ?_) (tmR_rfl rfl rfl) ⟨⟨⟨_, rfl, .plain rfl rfl (by first | exact Plain.of rfl | exact Row.all (by assumption))⟩⟩, trivial⟩ rfl rfl; rintro fuel_ ⟨a, i, L, ps, sp, n, c⟩ hI IH; replace hI : SplI z b a i L ps sp n c := hI; conv => whnf)
    | exact next_forget [0] (IH (_, _, _, _, _, _, _) (by exact hI.next2 hz (by assumption) (by assumption) ra_) (by exact hI.mu hz (by assumption))) (tmR_rfl rfl rfl) ⟨⟨⟨_, rfl, .plain rfl rfl (Row.all ra_)⟩⟩, trivial⟩ rfl rfl
    | exact next_forget [2] (IH (_, _, _, _, _, _, _) (by exact hI.next2 hz (by assumption) (by assumption) ra_) (by exact hI.mu hz (by assumption))) (tmR_rfl rfl rfl) ⟨⟨⟨_, rfl, .plain rfl rfl (Row.all ra_)⟩⟩, trivial⟩ rfl rfl
    | exact next_forget [0] (IH (_, _, _, _, _, _, _) (by exact hI.next1 hz (by assumption) (by assumption)) (by exact hI.mu hz (by assumption))) (tmR_rfl rfl rfl) ⟨⟨⟨_, rfl, .plain rfl rfl (Row.all hI.row)⟩⟩, trivial⟩ rfl rfl
    | (show AppK _ _ _ 1 _ _ _ _ _; refine app_lit hI.row rfl rfl rfl (Plain.of rfl) rfl rfl (by decide) (by have := hI.bd; show (_ + 1) * 16 ≤ _; omega) (by have := hI.bd; omega) (fun hle_ spa_ ra_ => ?_) (fun hle_ ca_ spa_ ra_ => ?_) <;> conv => whnf)
    | (obtain ⟨he_, hrow_⟩ := hI.fin (by assumption) ra_; rw [he_]; exact out_forget [_] ⟨_, _, _, hrow_, rfl, rfl⟩ rfl (okB2_spec rfl) ⟨⟨_, rfl, .plain rfl rfl (Row.all hrow_)⟩, trivial⟩ rfl rfl)
    | (refine StoreK.mk rfl ?_; conv => whnf)
    | exact join_same
    | exact (by assumption : (_ : Bool) = (_ : Bool))
    | (refine br_true (by assumption) ?_; conv => whnf)
    | (refine br_false (by assumption) ?_; conv => whnf)
    | (refine br_not ?_; conv => whnf)
    | (refine br_code ?_; conv => whnf)
    | (with_reducible refine br_and ?_; conv => whnf)
    | (with_reducible refine br_or ?_; conv => whnf)
    | (refine br_eq2 ?_; conv => whnf)
    | (refine draw_auto (by decide +kernel) ?_; conv => whnf)
    | (refine draw_asg (by decide +kernel) ?_; conv => whnf)
    | (refine draw_st (by decide +kernel) ?_; conv => whnf)
    | (refine draw_call (by decide +kernel) ?_; conv => whnf)
    | (refine next_same ?_; conv => whnf)
    | (refine mapK_row (by assumption) ?_; conv => whnf)
    | (refine mapK_plain (Plain.of rfl) ?_; conv => whnf)
    | (refine mapK_lit ?_; conv => whnf)
    | (refine br_split (fun _ => ?_) (fun _ => ?_) <;> conv => whnf)
    | exact (rfl : (_ : Value) = _)
    | (simp only [*]; exact (rfl : (_ : Value) = _))
    | (simp [*]; done))

end Go.Proofs.YtlkbfpklhncfbaaGreatDoor
end

section
/-
  Contracts of functions of the program (printed by a program of this work; Lean checks each).
  Conditions: as each contract states.
-/
namespace Go.Proofs.YtlkbfpklhncfbaaGreatDoor
open Go.Ev Go.RowKit
set_option maxRecDepth 100000
set_option linter.unusedVariables false
set_option linter.unusedSimpArgs false

attribute [local irreducible] isPtF Lib.itoa Lib.cut pint ptxt numS foldD sgnV sgnB splitC readS

theorem c_Split_at {z : ByteArray} {b : UInt8} {ps : List (List UInt8)} (hz : z.size < 4294967281) (e : splitC b z.data.toList = ps) : CallOK Tryz.prog n_spec_l01Split [.string z, .int .u8 (b.toNat : Int)] [] (fun v m_ => ∃ n c sp, n = ps.length ∧ Row (tl ps) sp n c 1 ∧ v = .slice (some ⟨0, 0, none⟩) n c ∧ m_ = [(tl ps ++ sp, some 9)]) := by
  subst e
  exact (c_spec_l01Split (b := b) hz).mono_ fun v m_ ⟨n, c, sp, h1, h2, h3⟩ => ⟨n, c, sp, row_tl h1, h1, h2, h3⟩
theorem ne_two {n k : Nat} (h : n = k) (hk : k ≠ 2) : decide ((n : Int) = 2) = false := decide_eq_false (by omega)

theorem c_l01Read_n1 {z : ByteArray} (hz : z.size < 4294967281) (hl : (splitC 44 z.data.toList).length ≠ 2) : CallOK Tryz.prog n_spec_l01Read [.string z] [] (fun v m_ => v = t2 (pt 0 0) (bb false) ∧ m_ = []) := by
  refine callOK_ofF good fn_spec_l01Read ?_
  conv => whnf
  all_goals (repeat' first
    | (refine CallOK.useR (c_Split_at (b := 44) hz rfl) [] rfl rfl rfl trivial (fun v_ mem_ hR => ?_); obtain ⟨n_, c_, sp_, hn_, hrow_, rfl, rfl⟩ := hR; refine ⟨rfl, ?_⟩; conv => whnf)
    | (refine br_false (ne_two hn_ hl) ?_; conv => whnf)
    | exact out_forget [] ⟨rfl, rfl⟩ rfl (okB2_spec rfl) trivial rfl rfl
    | (refine StoreK.mk rfl ?_; conv => whnf)
    | exact join_same
    | exact (by assumption : (_ : Bool) = (_ : Bool))
    | (refine br_true (by assumption) ?_; conv => whnf)
    | (refine br_false (by assumption) ?_; conv => whnf)
    | (refine br_not ?_; conv => whnf)
    | (refine br_code ?_; conv => whnf)
    | (with_reducible refine br_and ?_; conv => whnf)
    | (with_reducible refine br_or ?_; conv => whnf)
    | (refine br_eq2 ?_; conv => whnf)
    | (refine draw_auto (by decide +kernel) ?_; conv => whnf)
    | (refine draw_asg (by decide +kernel) ?_; conv => whnf)
    | (refine draw_st (by decide +kernel) ?_; conv => whnf)
    | (refine draw_call (by decide +kernel) ?_; conv => whnf)
    | (refine enter_same (loop_n 12 ?_); conv => whnf)
    | (refine next_same ?_; conv => whnf)
    | (refine mapK_row (by assumption) ?_; conv => whnf)
    | (refine mapK_plain (Plain.of rfl) ?_; conv => whnf)
    | (refine mapK_lit ?_; conv => whnf)
    | (refine br_split (fun _ => ?_) (fun _ => ?_) <;> conv => whnf)
    | exact (rfl : (_ : Value) = _)
    | (simp only [*]; exact (rfl : (_ : Value) = _))
    | (simp [*]; done))

set_option maxHeartbeats 1000000 in
theorem c_l01Read_n2 {z : ByteArray} {u_ y_ : List UInt8} (hz : z.size < 4294967281) (hs : splitC 44 z.data.toList = [u_, y_]) (hn : ¬ (sgnB u_ = true ∧ sgnB y_ = true ∧ isPtF (sgnV u_) (sgnV y_) = true)) : CallOK Tryz.prog n_spec_l01Read [.string z] [] (fun v m_ => v = t2 (pt 0 0) (bb false) ∧ m_ = []) := by
  refine callOK_ofF good fn_spec_l01Read ?_
  conv => whnf
  all_goals (repeat' first
    | (refine CallOK.useR (c_Split_at (b := 44) hz hs) [] rfl rfl rfl trivial (fun v_ mem_ hR => ?_); obtain ⟨n_, c_, sp_, hn_, hrow_, rfl, rfl⟩ := hR; obtain rfl : n_ = 2 := hn_; refine ⟨rfl, ?_⟩; conv => whnf)
    | (refine (c_spec_l01Signed (z := ⟨u_.toArray⟩)).call ?_; conv => whnf)
    | (refine (c_spec_l01Signed (z := ⟨u_.toArray⟩)).quiet ?_; conv => whnf)
    | (refine (c_spec_l01Signed (z := ⟨y_.toArray⟩)).call ?_; conv => whnf)
    | (refine (c_spec_l01Signed (z := ⟨y_.toArray⟩)).quiet ?_; conv => whnf)
    | (exact absurd ⟨by assumption, by assumption, by assumption⟩ hn)
    | exact out_forget [] ⟨rfl, rfl⟩ rfl (okB2_spec rfl) trivial rfl rfl
    | (refine StoreK.mk rfl ?_; conv => whnf)
    | exact join_same
    | exact (by assumption : (_ : Bool) = (_ : Bool))
    | (refine br_true (by assumption) ?_; conv => whnf)
    | (refine br_false (by assumption) ?_; conv => whnf)
    | (refine br_not ?_; conv => whnf)
    | (refine br_code ?_; conv => whnf)
    | (with_reducible refine br_and ?_; conv => whnf)
    | (with_reducible refine br_or ?_; conv => whnf)
    | (refine br_eq2 ?_; conv => whnf)
    | (refine c_spec_l01Is.call ?_; conv => whnf)
    | (refine c_spec_l01Is.quiet ?_; conv => whnf)
    | (refine draw_auto (by decide +kernel) ?_; conv => whnf)
    | (refine draw_asg (by decide +kernel) ?_; conv => whnf)
    | (refine draw_st (by decide +kernel) ?_; conv => whnf)
    | (refine draw_call (by decide +kernel) ?_; conv => whnf)
    | (refine enter_same (loop_n 12 ?_); conv => whnf)
    | (refine next_same ?_; conv => whnf)
    | (refine mapK_row (by assumption) ?_; conv => whnf)
    | (refine mapK_plain (Plain.of rfl) ?_; conv => whnf)
    | (refine mapK_lit ?_; conv => whnf)
    | (refine br_split (fun _ => ?_) (fun _ => ?_) <;> conv => whnf)
    | exact (rfl : (_ : Value) = _)
    | (simp only [*]; exact (rfl : (_ : Value) = _))
    | (simp [*]; done))

set_option maxHeartbeats 1000000 in
theorem c_l01Read_ok {z : ByteArray} {u_ y_ : List UInt8} (hz : z.size < 4294967281) (hs : splitC 44 z.data.toList = [u_, y_]) (h1 : sgnB u_ = true) (h2 : sgnB y_ = true) (h3 : isPtF (sgnV u_) (sgnV y_) = true) : CallOK Tryz.prog n_spec_l01Read [.string z] [] (fun v m_ => v = t2 (pt (sgnV u_) (sgnV y_)) (bb true) ∧ m_ = []) := by
  refine callOK_ofF good fn_spec_l01Read ?_
  conv => whnf
  all_goals (repeat' first
    | (refine CallOK.useR (c_Split_at (b := 44) hz hs) [] rfl rfl rfl trivial (fun v_ mem_ hR => ?_); obtain ⟨n_, c_, sp_, hn_, hrow_, rfl, rfl⟩ := hR; obtain rfl : n_ = 2 := hn_; refine ⟨rfl, ?_⟩; conv => whnf)
    | (refine (c_spec_l01Signed (z := ⟨u_.toArray⟩)).call ?_; conv => whnf)
    | (refine (c_spec_l01Signed (z := ⟨u_.toArray⟩)).quiet ?_; conv => whnf)
    | (refine (c_spec_l01Signed (z := ⟨y_.toArray⟩)).call ?_; conv => whnf)
    | (refine (c_spec_l01Signed (z := ⟨y_.toArray⟩)).quiet ?_; conv => whnf)
    | exact out_forget [] ⟨rfl, rfl⟩ rfl (okB2_spec rfl) trivial rfl rfl
    | (refine StoreK.mk rfl ?_; conv => whnf)
    | exact join_same
    | exact (by assumption : (_ : Bool) = (_ : Bool))
    | (refine br_true (by assumption) ?_; conv => whnf)
    | (refine br_false (by assumption) ?_; conv => whnf)
    | (refine br_not ?_; conv => whnf)
    | (refine br_code ?_; conv => whnf)
    | (with_reducible refine br_and ?_; conv => whnf)
    | (with_reducible refine br_or ?_; conv => whnf)
    | (refine br_eq2 ?_; conv => whnf)
    | (refine c_spec_l01Is.call ?_; conv => whnf)
    | (refine c_spec_l01Is.quiet ?_; conv => whnf)
    | (refine draw_auto (by decide +kernel) ?_; conv => whnf)
    | (refine draw_asg (by decide +kernel) ?_; conv => whnf)
    | (refine draw_st (by decide +kernel) ?_; conv => whnf)
    | (refine draw_call (by decide +kernel) ?_; conv => whnf)
    | (refine enter_same (loop_n 12 ?_); conv => whnf)
    | (refine next_same ?_; conv => whnf)
    | (refine mapK_row (by assumption) ?_; conv => whnf)
    | (refine mapK_plain (Plain.of rfl) ?_; conv => whnf)
    | (refine mapK_lit ?_; conv => whnf)
    | (refine br_split (fun _ => ?_) (fun _ => ?_) <;> conv => whnf)
    | exact (rfl : (_ : Value) = _)
    | (simp only [*]; exact (rfl : (_ : Value) = _))
    | (simp [*]; done))

theorem c_spec_l01Read_ok {z : ByteArray} {p : Int × Int} (hz : z.size < 4294967281) (hr : readS z.data.toList = some p) : CallOK Tryz.prog n_spec_l01Read [.string z] [] (fun v m_ => v = t2 (pt p.1 p.2) (bb true) ∧ m_ = []) := by
  obtain ⟨u, v, hs, h1, h2, h3, rfl⟩ := readS_form hr
  exact c_l01Read_ok hz hs h1 h2 h3
theorem c_spec_l01Read_no {z : ByteArray} (hz : z.size < 4294967281) (hr : readS z.data.toList = none) : CallOK Tryz.prog n_spec_l01Read [.string z] [] (fun v m_ => v = t2 (pt 0 0) (bb false) ∧ m_ = []) := by
  rcases readS_no hr with h | ⟨u, v, hs, hn⟩
  · exact c_l01Read_n1 hz h
  · exact c_l01Read_n2 hz hs hn

theorem c_spec_ParsePoint_ok {z : ByteArray} {p : Int × Int} (hz : z.size < 4294967281) (hr : readS z.data.toList = some p) : CallOK Tryz.prog n_spec_ParsePoint [.string z] [] (fun v m_ => v = t2 (pt p.1 p.2) (ii 0) ∧ m_ = []) := by
  refine callOK_ofF good fn_spec_ParsePoint ?_
  conv => whnf
  all_goals (repeat' first
    | (refine CallOK.useR (c_spec_l01Read_ok hz hr) [] rfl rfl rfl trivial (fun v_ mem_ hR => ?_); obtain ⟨rfl, rfl⟩ := hR; refine ⟨rfl, ?_⟩; conv => whnf)
    | exact out_forget [] ⟨rfl, rfl⟩ rfl (okB2_spec rfl) trivial rfl rfl
    | (refine StoreK.mk rfl ?_; conv => whnf)
    | exact join_same
    | exact (by assumption : (_ : Bool) = (_ : Bool))
    | (refine br_true (by assumption) ?_; conv => whnf)
    | (refine br_false (by assumption) ?_; conv => whnf)
    | (refine br_not ?_; conv => whnf)
    | (refine br_code ?_; conv => whnf)
    | (with_reducible refine br_and ?_; conv => whnf)
    | (with_reducible refine br_or ?_; conv => whnf)
    | (refine br_eq2 ?_; conv => whnf)
    | (refine draw_auto (by decide +kernel) ?_; conv => whnf)
    | (refine draw_asg (by decide +kernel) ?_; conv => whnf)
    | (refine draw_st (by decide +kernel) ?_; conv => whnf)
    | (refine draw_call (by decide +kernel) ?_; conv => whnf)
    | (refine enter_same (loop_n 12 ?_); conv => whnf)
    | (refine next_same ?_; conv => whnf)
    | (refine mapK_row (by assumption) ?_; conv => whnf)
    | (refine mapK_plain (Plain.of rfl) ?_; conv => whnf)
    | (refine mapK_lit ?_; conv => whnf)
    | (refine br_split (fun _ => ?_) (fun _ => ?_) <;> conv => whnf)
    | exact (rfl : (_ : Value) = _)
    | (simp only [*]; exact (rfl : (_ : Value) = _))
    | (simp [*]; done))

theorem c_spec_ParsePoint_no {z : ByteArray} (hz : z.size < 4294967281) (hr : readS z.data.toList = none) : CallOK Tryz.prog n_spec_ParsePoint [.string z] [] (fun v m_ => v = t2 (pt 0 0) (ii 6) ∧ m_ = []) := by
  refine callOK_ofF good fn_spec_ParsePoint ?_
  conv => whnf
  all_goals (repeat' first
    | (refine CallOK.useR (c_spec_l01Read_no hz hr) [] rfl rfl rfl trivial (fun v_ mem_ hR => ?_); obtain ⟨rfl, rfl⟩ := hR; refine ⟨rfl, ?_⟩; conv => whnf)
    | exact out_forget [] ⟨rfl, rfl⟩ rfl (okB2_spec rfl) trivial rfl rfl
    | (refine StoreK.mk rfl ?_; conv => whnf)
    | exact join_same
    | exact (by assumption : (_ : Bool) = (_ : Bool))
    | (refine br_true (by assumption) ?_; conv => whnf)
    | (refine br_false (by assumption) ?_; conv => whnf)
    | (refine br_not ?_; conv => whnf)
    | (refine br_code ?_; conv => whnf)
    | (with_reducible refine br_and ?_; conv => whnf)
    | (with_reducible refine br_or ?_; conv => whnf)
    | (refine br_eq2 ?_; conv => whnf)
    | (refine draw_auto (by decide +kernel) ?_; conv => whnf)
    | (refine draw_asg (by decide +kernel) ?_; conv => whnf)
    | (refine draw_st (by decide +kernel) ?_; conv => whnf)
    | (refine draw_call (by decide +kernel) ?_; conv => whnf)
    | (refine enter_same (loop_n 12 ?_); conv => whnf)
    | (refine next_same ?_; conv => whnf)
    | (refine mapK_row (by assumption) ?_; conv => whnf)
    | (refine mapK_plain (Plain.of rfl) ?_; conv => whnf)
    | (refine mapK_lit ?_; conv => whnf)
    | (refine br_split (fun _ => ?_) (fun _ => ?_) <;> conv => whnf)
    | exact (rfl : (_ : Value) = _)
    | (simp only [*]; exact (rfl : (_ : Value) = _))
    | (simp [*]; done))

end Go.Proofs.YtlkbfpklhncfbaaGreatDoor
end

section
/-
  Contracts of functions of the program (printed by a program of this work; Lean checks each).
  Conditions: as each contract states.
-/
namespace Go.Proofs.YtlkbfpklhncfbaaGreatDoor
open Go.Ev Go.RowKit
set_option maxRecDepth 100000
set_option linter.unusedVariables false
set_option linter.unusedSimpArgs false

theorem c_spec_l01Read_b {z : ByteArray} (hz : z.size < 4294967281) : CallOK Tryz.prog n_spec_l01Read [.string z] [] (fun v m_ => (∃ p : Int × Int, readS z.data.toList = some p ∧ v = t2 (pt p.1 p.2) (bb true) ∧ m_ = []) ∨ (readS z.data.toList = none ∧ v = t2 (pt 0 0) (bb false) ∧ m_ = [])) := by
  cases h : readS z.data.toList with
  | none => exact (c_spec_l01Read_no hz h).mono_ fun v m hR => .inr ⟨rfl, hR⟩
  | some p => exact (c_spec_l01Read_ok hz h).mono_ fun v m hR => .inl ⟨p, rfl, hR⟩
theorem c_impl_ParsePoint_b {z : ByteArray} (hz : z.size < 4294967281) : CallOK Tryz.prog n_impl_ParsePoint [.string z] [] (fun v m_ => (∃ p : Int × Int, readS z.data.toList = some p ∧ v = t2 (pt p.1 p.2) (ii 0) ∧ m_ = []) ∨ (readS z.data.toList = none ∧ v = t2 (pt 0 0) (ii 6) ∧ m_ = [])) := by
  cases h : readS z.data.toList with
  | none => exact (c_impl_ParsePoint_no hz ((read_eq _).trans h)).mono_ fun v m hR => .inr ⟨rfl, hR⟩
  | some p => exact (c_impl_ParsePoint_ok hz ((read_eq _).trans h)).mono_ fun v m hR => .inl ⟨p, rfl, hR⟩

attribute [local irreducible] isPtF Lib.itoa Lib.cut pint ptxt numS foldD sgnV sgnB splitC readS tl

set_option maxHeartbeats 1000000 in
theorem c_l01ReadList_ok {z : ByteArray} {Q : List (Int × Int)} (hz : z.size < 4294967281) (hne : (z.data.toList == []) = false) (hq : (splitC 59 z.data.toList).map readS = Q.map some) : CallOK Tryz.prog n_spec_l01ReadList [.string z] [] (fun v m_ => ∃ n c sp, Row (pl Q) sp n c 2 ∧ n = Q.length ∧ v = t2 (.slice (some ⟨0, 0, none⟩) n c) (bb (decide ((n : Int) ≤ 100))) ∧ m_ = [(pl Q ++ sp, some 38)]) := by
  refine callOK_ofF good fn_spec_l01ReadList ?_
  conv => whnf
  all_goals (repeat' first
    | (refine br_false hne ?_; conv => whnf)
    | (refine CallOK.useR (c_Split_at (b := 59) hz rfl) [] rfl rfl rfl trivial (fun v_ mem_ hR => ?_); obtain ⟨n_, c_, sp_, rfl, hrow_, rfl, rfl⟩ := hR; refine ⟨rfl, ?_⟩; conv => whnf)
    | (refine br_in hI.lo (of_decide_eq_true (by assumption)) ?_; conv => whnf)
    | (refine force_eq (take_tl1 (ps := (splitC 59 z.data.toList)) (i := i.toNat) ?_ ?_) ?_; (focus (simp only [Nat.mul_one, Nat.zero_add]; done)); (focus (have := hI.lo; have := of_decide_eq_true (by assumption : decide (i < ((splitC 59 z.data.toList).length : Int)) = true); omega)); conv => whnf)
    | (refine CallOK.useR (c_spec_l01Read_b (hI.part hz)) [] rfl rfl rfl trivial (fun v_ mem_ hR => ?_); obtain ⟨p_, hr_, rfl, rfl⟩ | ⟨hr_, rfl, rfl⟩ := hR <;> (refine ⟨rfl, ?_⟩; conv => whnf))
    | exact (hI.good (by assumption) hq hr_).elim
    | (refine enter_forget [0, 1] (loop_rec (fun (s : Int × (List Value) × (List (Int × Int)) × (List Value) × Nat × Nat) => match s with | (i, L, P, sp, n, c) => [.string z, wild, wild, wild, .slice (some ⟨0, 0, none⟩) n c, .slice (some ⟨1, 0, none⟩) (splitC 59 z.data.toList).length c_, ii i, wild, wild, wild, wild, wild, wild, wild, wild, wild, wild, wild, wild, wild, wild, wild, wild, wild, wild, wild, wild, wild, wild, wild, wild, wild, wild, wild, wild, wild, wild, wild, wild]) (fun (s : Int × (List Value) × (List (Int × Int)) × (List Value) × Nat × Nat) => match s with | (i, L, P, sp, n, c) => [(L ++ sp, some 38), (tl (splitC 59 z.data.toList) ++ sp_, some 9)]) (fun (s : Int × (List Value) × (List (Int × Int)) × (List Value) × Nat × Nat) => match s with | (i, L, P, sp, n, c) => (((splitC 59 z.data.toList).length : Int) - i).toNat) (fun (s : Int × (List Value) × (List (Int × Int)) × (List Value) × Nat × Nat) => match s with | (i, L, P, sp, n, c) => RdI (splitC 59 z.data.toList) i L P sp n c) (0, [], [], [], 0, 0) (RdI.start _) ?_) (tmR_rfl rfl rfl) ⟨⟨⟨_, rfl, .plain rfl rfl (fun _ h_ => by cases h_)⟩⟩, ⟨⟨_, rfl, .plain rfl rfl (Row.all hrow_)⟩⟩, trivial⟩ rfl rfl; rintro fuel_ ⟨i, L, P, sp, n, c⟩ hI IH; replace hI : RdI (splitC 59 z.data.toList) i L P sp n c := hI; conv => whnf)
    | exact next_forget [0, 1] (IH (_, _, _, _, _, _) (by exact hI.next (by have := split_num 59 z.data.toList; have e_ := ba_len z; omega) (by assumption) hr_ ra_) (by exact hI.mu (by have := split_num 59 z.data.toList; have e_ := ba_len z; omega) (by assumption))) (tmR_rfl rfl rfl) ⟨⟨⟨_, rfl, .plain rfl rfl (Row.all ra_)⟩⟩, ⟨⟨_, rfl, .plain rfl rfl (Row.all hrow_)⟩⟩, trivial⟩ rfl rfl
    | exact next_forget [2, 1] (IH (_, _, _, _, _, _) (by exact hI.next (by have := split_num 59 z.data.toList; have e_ := ba_len z; omega) (by assumption) hr_ ra_) (by exact hI.mu (by have := split_num 59 z.data.toList; have e_ := ba_len z; omega) (by assumption))) (tmR_rfl rfl rfl) ⟨⟨⟨_, rfl, .plain rfl rfl (Row.all ra_)⟩⟩, ⟨⟨_, rfl, .plain rfl rfl (Row.all hrow_)⟩⟩, trivial⟩ rfl rfl
    | exact next_forget [3, 1] (IH (_, _, _, _, _, _) (by exact hI.next (by have := split_num 59 z.data.toList; have e_ := ba_len z; omega) (by assumption) hr_ ra_) (by exact hI.mu (by have := split_num 59 z.data.toList; have e_ := ba_len z; omega) (by assumption))) (tmR_rfl rfl rfl) ⟨⟨⟨_, rfl, .plain rfl rfl (Row.all ra_)⟩⟩, ⟨⟨_, rfl, .plain rfl rfl (Row.all hrow_)⟩⟩, trivial⟩ rfl rfl
    | exact next_forget [4, 1] (IH (_, _, _, _, _, _) (by exact hI.next (by have := split_num 59 z.data.toList; have e_ := ba_len z; omega) (by assumption) hr_ ra_) (by exact hI.mu (by have := split_num 59 z.data.toList; have e_ := ba_len z; omega) (by assumption))) (tmR_rfl rfl rfl) ⟨⟨⟨_, rfl, .plain rfl rfl (Row.all ra_)⟩⟩, ⟨⟨_, rfl, .plain rfl rfl (Row.all hrow_)⟩⟩, trivial⟩ rfl rfl
    | (show AppK _ _ _ 2 _ _ _ _ _; refine app_lit hI.row rfl rfl rfl (Plain.of rfl) rfl rfl (by decide) (by have := hI.cnt; have := hI.hi; have := split_num 59 z.data.toList; have e_ := ba_len z; show (_ + 1) * 16 ≤ _; omega) (by have := hI.cnt; have := hI.hi; have := split_num 59 z.data.toList; have e_ := ba_len z; omega) (fun hle_ spa_ ra_ => ?_) (fun hle_ ca_ spa_ ra_ => ?_) <;> conv => whnf)
    | (obtain ⟨he_, hrow2_⟩ := hI.fin (by assumption) hq; rw [he_]; exact out_forget [_] ⟨_, _, _, hrow2_, row_plD hrow2_, rfl, rfl⟩ rfl (okB2_spec rfl) ⟨⟨_, rfl, .plain rfl rfl (Row.all hrow2_)⟩, trivial⟩ rfl rfl)
    | (refine StoreK.mk rfl ?_; conv => whnf)
    | exact join_same
    | exact (by assumption : (_ : Bool) = (_ : Bool))
    | (refine br_true (by assumption) ?_; conv => whnf)
    | (refine br_false (by assumption) ?_; conv => whnf)
    | (refine br_not ?_; conv => whnf)
    | (refine br_code ?_; conv => whnf)
    | (with_reducible refine br_and ?_; conv => whnf)
    | (with_reducible refine br_or ?_; conv => whnf)
    | (refine br_eq2 ?_; conv => whnf)
    | (refine draw_auto (by decide +kernel) ?_; conv => whnf)
    | (refine draw_asg (by decide +kernel) ?_; conv => whnf)
    | (refine draw_st (by decide +kernel) ?_; conv => whnf)
    | (refine draw_call (by decide +kernel) ?_; conv => whnf)
    | (refine next_same ?_; conv => whnf)
    | (refine mapK_row (by assumption) ?_; conv => whnf)
    | (refine mapK_plain (Plain.of rfl) ?_; conv => whnf)
    | (refine mapK_lit ?_; conv => whnf)
    | (refine br_split (fun _ => ?_) (fun _ => ?_) <;> conv => whnf)
    | exact (rfl : (_ : Value) = _)
    | (simp only [*]; exact (rfl : (_ : Value) = _))
    | (simp [*]; done))

set_option maxHeartbeats 1000000 in
theorem c_l01ReadList_bad {z : ByteArray} (hz : z.size < 4294967281) (hne : (z.data.toList == []) = false) (hq : none ∈ (splitC 59 z.data.toList).map readS) : CallOK Tryz.prog n_spec_l01ReadList [.string z] [] (fun v m_ => v = t2 (.slice none 0 0) (bb false) ∧ m_ = []) := by
  refine callOK_ofF good fn_spec_l01ReadList ?_
  conv => whnf
  all_goals (repeat' first
    | (refine br_false hne ?_; conv => whnf)
    | (refine CallOK.useR (c_Split_at (b := 59) hz rfl) [] rfl rfl rfl trivial (fun v_ mem_ hR => ?_); obtain ⟨n_, c_, sp_, rfl, hrow_, rfl, rfl⟩ := hR; refine ⟨rfl, ?_⟩; conv => whnf)
    | (refine br_in hI.lo (of_decide_eq_true (by assumption)) ?_; conv => whnf)
    | (refine force_eq (take_tl1 (ps := (splitC 59 z.data.toList)) (i := i.toNat) ?_ ?_) ?_; (focus (simp only [Nat.mul_one, Nat.zero_add]; done)); (focus (have := hI.lo; have := of_decide_eq_true (by assumption : decide (i < ((splitC 59 z.data.toList).length : Int)) = true); omega)); conv => whnf)
    | (refine CallOK.useR (c_spec_l01Read_b (hI.part hz)) [] rfl rfl rfl trivial (fun v_ mem_ hR => ?_); obtain ⟨p_, hr_, rfl, rfl⟩ | ⟨hr_, rfl, rfl⟩ := hR <;> (refine ⟨rfl, ?_⟩; conv => whnf))
    | (refine enter_forget [0, 1] (loop_rec (fun (s : Int × (List Value) × (List (Int × Int)) × (List Value) × Nat × Nat) => match s with | (i, L, P, sp, n, c) => [.string z, wild, wild, wild, .slice (some ⟨0, 0, none⟩) n c, .slice (some ⟨1, 0, none⟩) (splitC 59 z.data.toList).length c_, ii i, wild, wild, wild, wild, wild, wild, wild, wild, wild, wild, wild, wild, wild, wild, wild, wild, wild, wild, wild, wild, wild, wild, wild, wild, wild, wild, wild, wild, wild, wild, wild, wild]) (fun (s : Int × (List Value) × (List (Int × Int)) × (List Value) × Nat × Nat) => match s with | (i, L, P, sp, n, c) => [(L ++ sp, some 38), (tl (splitC 59 z.data.toList) ++ sp_, some 9)]) (fun (s : Int × (List Value) × (List (Int × Int)) × (List Value) × Nat × Nat) => match s with | (i, L, P, sp, n, c) => (((splitC 59 z.data.toList).length : Int) - i).toNat) (fun (s : Int × (List Value) × (List (Int × Int)) × (List Value) × Nat × Nat) => match s with | (i, L, P, sp, n, c) => RdI (splitC 59 z.data.toList) i L P sp n c) (0, [], [], [], 0, 0) (RdI.start _) ?_) (tmR_rfl rfl rfl) ⟨⟨⟨_, rfl, .plain rfl rfl (fun _ h_ => by cases h_)⟩⟩, ⟨⟨_, rfl, .plain rfl rfl (Row.all hrow_)⟩⟩, trivial⟩ rfl rfl; rintro fuel_ ⟨i, L, P, sp, n, c⟩ hI IH; replace hI : RdI (splitC 59 z.data.toList) i L P sp n c := hI; conv => whnf)
    | exact next_forget [0, 1] (IH (_, _, _, _, _, _) (by exact hI.next (by have := split_num 59 z.data.toList; have e_ := ba_len z; omega) (by assumption) hr_ ra_) (by exact hI.mu (by have := split_num 59 z.data.toList; have e_ := ba_len z; omega) (by assumption))) (tmR_rfl rfl rfl) ⟨⟨⟨_, rfl, .plain rfl rfl (Row.all ra_)⟩⟩, ⟨⟨_, rfl, .plain rfl rfl (Row.all hrow_)⟩⟩, trivial⟩ rfl rfl
    | exact next_forget [2, 1] (IH (_, _, _, _, _, _) (by exact hI.next (by have := split_num 59 z.data.toList; have e_ := ba_len z; omega) (by assumption) hr_ ra_) (by exact hI.mu (by have := split_num 59 z.data.toList; have e_ := ba_len z; omega) (by assumption))) (tmR_rfl rfl rfl) ⟨⟨⟨_, rfl, .plain rfl rfl (Row.all ra_)⟩⟩, ⟨⟨_, rfl, .plain rfl rfl (Row.all hrow_)⟩⟩, trivial⟩ rfl rfl
    | exact next_forget [3, 1] (IH (_, _, _, _, _, _) (by exact hI.next (by have := split_num 59 z.data.toList; have e_ := ba_len z; omega) (by assumption) hr_ ra_) (by exact hI.mu (by have := split_num 59 z.data.toList; have e_ := ba_len z; omega) (by assumption))) (tmR_rfl rfl rfl) ⟨⟨⟨_, rfl, .plain rfl rfl (Row.all ra_)⟩⟩, ⟨⟨_, rfl, .plain rfl rfl (Row.all hrow_)⟩⟩, trivial⟩ rfl rfl
    | exact next_forget [4, 1] (IH (_, _, _, _, _, _) (by exact hI.next (by have := split_num 59 z.data.toList; have e_ := ba_len z; omega) (by assumption) hr_ ra_) (by exact hI.mu (by have := split_num 59 z.data.toList; have e_ := ba_len z; omega) (by assumption))) (tmR_rfl rfl rfl) ⟨⟨⟨_, rfl, .plain rfl rfl (Row.all ra_)⟩⟩, ⟨⟨_, rfl, .plain rfl rfl (Row.all hrow_)⟩⟩, trivial⟩ rfl rfl
    | (show AppK _ _ _ 2 _ _ _ _ _; refine app_lit hI.row rfl rfl rfl (Plain.of rfl) rfl rfl (by decide) (by have := hI.cnt; have := hI.hi; have := split_num 59 z.data.toList; have e_ := ba_len z; show (_ + 1) * 16 ≤ _; omega) (by have := hI.cnt; have := hI.hi; have := split_num 59 z.data.toList; have e_ := ba_len z; omega) (fun hle_ spa_ ra_ => ?_) (fun hle_ ca_ spa_ ra_ => ?_) <;> conv => whnf)
    | exact (hI.finB (by assumption) hq).elim
    | exact out_forget [] ⟨rfl, rfl⟩ rfl (okB2_spec rfl) trivial rfl rfl
    | (refine StoreK.mk rfl ?_; conv => whnf)
    | exact join_same
    | exact (by assumption : (_ : Bool) = (_ : Bool))
    | (refine br_true (by assumption) ?_; conv => whnf)
    | (refine br_false (by assumption) ?_; conv => whnf)
    | (refine br_not ?_; conv => whnf)
    | (refine br_code ?_; conv => whnf)
    | (with_reducible refine br_and ?_; conv => whnf)
    | (with_reducible refine br_or ?_; conv => whnf)
    | (refine br_eq2 ?_; conv => whnf)
    | (refine draw_auto (by decide +kernel) ?_; conv => whnf)
    | (refine draw_asg (by decide +kernel) ?_; conv => whnf)
    | (refine draw_st (by decide +kernel) ?_; conv => whnf)
    | (refine draw_call (by decide +kernel) ?_; conv => whnf)
    | (refine next_same ?_; conv => whnf)
    | (refine mapK_row (by assumption) ?_; conv => whnf)
    | (refine mapK_plain (Plain.of rfl) ?_; conv => whnf)
    | (refine mapK_lit ?_; conv => whnf)
    | (refine br_split (fun _ => ?_) (fun _ => ?_) <;> conv => whnf)
    | exact (rfl : (_ : Value) = _)
    | (simp only [*]; exact (rfl : (_ : Value) = _))
    | (simp [*]; done))

theorem c_spec_ParsePoints_ok {z : ByteArray} {Q : List (Int × Int)} (hz : z.size < 4294967281) (hne : (z.data.toList == []) = false) (hq : (splitC 59 z.data.toList).map readS = Q.map some) (h100 : Q.length ≤ 100) : CallOK Tryz.prog n_spec_ParsePoints [.string z] [] (fun v m_ => ∃ n c sp, Row (pl Q) sp n c 2 ∧ v = t2 (.slice (some ⟨0, 0, none⟩) n c) (ii 0) ∧ m_ = [(pl Q ++ sp, some 38)]) := by
  refine callOK_ofF good fn_spec_ParsePoints ?_
  conv => whnf
  all_goals (repeat' first
    | (refine CallOK.useR (c_l01ReadList_ok hz hne hq) [] rfl rfl rfl trivial (fun v_ mem_ hR => ?_); obtain ⟨n_, c_, sp_, hrow_, rfl, rfl, rfl⟩ := hR; refine ⟨rfl, ?_⟩; conv => whnf)
    | (refine br_true (decide_eq_true (by omega)) ?_; conv => whnf)
    | (exact out_forget [_] ⟨_, _, _, hrow_, rfl, rfl⟩ rfl (okB2_spec rfl) ⟨⟨_, rfl, .plain rfl rfl (Row.all hrow_)⟩, trivial⟩ rfl rfl)
    | (refine StoreK.mk rfl ?_; conv => whnf)
    | exact join_same
    | exact (by assumption : (_ : Bool) = (_ : Bool))
    | (refine br_true (by assumption) ?_; conv => whnf)
    | (refine br_false (by assumption) ?_; conv => whnf)
    | (refine br_not ?_; conv => whnf)
    | (refine br_code ?_; conv => whnf)
    | (with_reducible refine br_and ?_; conv => whnf)
    | (with_reducible refine br_or ?_; conv => whnf)
    | (refine br_eq2 ?_; conv => whnf)
    | (refine draw_auto (by decide +kernel) ?_; conv => whnf)
    | (refine draw_asg (by decide +kernel) ?_; conv => whnf)
    | (refine draw_st (by decide +kernel) ?_; conv => whnf)
    | (refine draw_call (by decide +kernel) ?_; conv => whnf)
    | (refine enter_same (loop_n 12 ?_); conv => whnf)
    | (refine next_same ?_; conv => whnf)
    | (refine mapK_row (by assumption) ?_; conv => whnf)
    | (refine mapK_plain (Plain.of rfl) ?_; conv => whnf)
    | (refine mapK_lit ?_; conv => whnf)
    | (refine br_split (fun _ => ?_) (fun _ => ?_) <;> conv => whnf)
    | exact (rfl : (_ : Value) = _)
    | (simp only [*]; exact (rfl : (_ : Value) = _))
    | (simp [*]; done))

theorem c_spec_ParsePoints_b1 {z : ByteArray} {Q : List (Int × Int)} (hz : z.size < 4294967281) (hne : (z.data.toList == []) = false) (hq : (splitC 59 z.data.toList).map readS = Q.map some) (h100 : 100 < Q.length) : CallOK Tryz.prog n_spec_ParsePoints [.string z] [] (fun v m_ => v = t2 (.slice none 0 0) (ii 6) ∧ m_ = []) := by
  refine callOK_ofF good fn_spec_ParsePoints ?_
  conv => whnf
  all_goals (repeat' first
    | (refine CallOK.useR (c_l01ReadList_ok hz hne hq) [] rfl rfl rfl trivial (fun v_ mem_ hR => ?_); obtain ⟨n_, c_, sp_, hrow_, rfl, rfl, rfl⟩ := hR; refine ⟨rfl, ?_⟩; conv => whnf)
    | (refine br_false (decide_eq_false (by omega)) ?_; conv => whnf)
    | exact out_forget [] ⟨rfl, rfl⟩ rfl (okB2_spec rfl) trivial rfl rfl
    | (refine StoreK.mk rfl ?_; conv => whnf)
    | exact join_same
    | exact (by assumption : (_ : Bool) = (_ : Bool))
    | (refine br_true (by assumption) ?_; conv => whnf)
    | (refine br_false (by assumption) ?_; conv => whnf)
    | (refine br_not ?_; conv => whnf)
    | (refine br_code ?_; conv => whnf)
    | (with_reducible refine br_and ?_; conv => whnf)
    | (with_reducible refine br_or ?_; conv => whnf)
    | (refine br_eq2 ?_; conv => whnf)
    | (refine draw_auto (by decide +kernel) ?_; conv => whnf)
    | (refine draw_asg (by decide +kernel) ?_; conv => whnf)
    | (refine draw_st (by decide +kernel) ?_; conv => whnf)
    | (refine draw_call (by decide +kernel) ?_; conv => whnf)
    | (refine enter_same (loop_n 12 ?_); conv => whnf)
    | (refine next_same ?_; conv => whnf)
    | (refine mapK_row (by assumption) ?_; conv => whnf)
    | (refine mapK_plain (Plain.of rfl) ?_; conv => whnf)
    | (refine mapK_lit ?_; conv => whnf)
    | (refine br_split (fun _ => ?_) (fun _ => ?_) <;> conv => whnf)
    | exact (rfl : (_ : Value) = _)
    | (simp only [*]; exact (rfl : (_ : Value) = _))
    | (simp [*]; done))

theorem c_spec_ParsePoints_b2 {z : ByteArray} (hz : z.size < 4294967281) (hne : (z.data.toList == []) = false) (hq : none ∈ (splitC 59 z.data.toList).map readS) : CallOK Tryz.prog n_spec_ParsePoints [.string z] [] (fun v m_ => v = t2 (.slice none 0 0) (ii 6) ∧ m_ = []) := by
  refine callOK_ofF good fn_spec_ParsePoints ?_
  conv => whnf
  all_goals (repeat' first
    | (refine CallOK.useR (c_l01ReadList_bad hz hne hq) [] rfl rfl rfl trivial (fun v_ mem_ hR => ?_); obtain ⟨rfl, rfl⟩ := hR; refine ⟨rfl, ?_⟩; conv => whnf)
    | exact out_forget [] ⟨rfl, rfl⟩ rfl (okB2_spec rfl) trivial rfl rfl
    | (refine StoreK.mk rfl ?_; conv => whnf)
    | exact join_same
    | exact (by assumption : (_ : Bool) = (_ : Bool))
    | (refine br_true (by assumption) ?_; conv => whnf)
    | (refine br_false (by assumption) ?_; conv => whnf)
    | (refine br_not ?_; conv => whnf)
    | (refine br_code ?_; conv => whnf)
    | (with_reducible refine br_and ?_; conv => whnf)
    | (with_reducible refine br_or ?_; conv => whnf)
    | (refine br_eq2 ?_; conv => whnf)
    | (refine draw_auto (by decide +kernel) ?_; conv => whnf)
    | (refine draw_asg (by decide +kernel) ?_; conv => whnf)
    | (refine draw_st (by decide +kernel) ?_; conv => whnf)
    | (refine draw_call (by decide +kernel) ?_; conv => whnf)
    | (refine enter_same (loop_n 12 ?_); conv => whnf)
    | (refine next_same ?_; conv => whnf)
    | (refine mapK_row (by assumption) ?_; conv => whnf)
    | (refine mapK_plain (Plain.of rfl) ?_; conv => whnf)
    | (refine mapK_lit ?_; conv => whnf)
    | (refine br_split (fun _ => ?_) (fun _ => ?_) <;> conv => whnf)
    | exact (rfl : (_ : Value) = _)
    | (simp only [*]; exact (rfl : (_ : Value) = _))
    | (simp [*]; done))

theorem c_l01ReadList_nil   : CallOK Tryz.prog n_spec_l01ReadList [.string ⟨#[]⟩] [] (fun v m_ => v = t2 (.slice (some ⟨0, 0, none⟩) 0 0) (bb true) ∧ m_ = [([], some 38)]) := by
  refine callOK_ofF good fn_spec_l01ReadList ?_
  conv => whnf
  all_goals (repeat' first
    | exact out_forget [] ⟨rfl, rfl⟩ rfl (okB2_spec rfl) ⟨⟨⟨_, rfl, .plain rfl rfl (by first | exact Plain.of rfl | exact Row.all (by assumption))⟩⟩, trivial⟩ rfl rfl
    | exact out_forget [_] ⟨rfl, rfl⟩ rfl (okB2_spec rfl) ⟨⟨⟨_, rfl, .plain rfl rfl (by first | exact Plain.of rfl | exact Row.all (by assumption))⟩⟩, trivial⟩ rfl rfl
    | (refine StoreK.mk rfl ?_; conv => whnf)
    | exact join_same
    | exact (by assumption : (_ : Bool) = (_ : Bool))
    | (refine br_true (by assumption) ?_; conv => whnf)
    | (refine br_false (by assumption) ?_; conv => whnf)
    | (refine br_not ?_; conv => whnf)
    | (refine br_code ?_; conv => whnf)
    | (with_reducible refine br_and ?_; conv => whnf)
    | (with_reducible refine br_or ?_; conv => whnf)
    | (refine br_eq2 ?_; conv => whnf)
    | (refine draw_auto (by decide +kernel) ?_; conv => whnf)
    | (refine draw_asg (by decide +kernel) ?_; conv => whnf)
    | (refine draw_st (by decide +kernel) ?_; conv => whnf)
    | (refine draw_call (by decide +kernel) ?_; conv => whnf)
    | (refine enter_same (loop_n 12 ?_); conv => whnf)
    | (refine next_same ?_; conv => whnf)
    | (refine mapK_row (by assumption) ?_; conv => whnf)
    | (refine mapK_plain (Plain.of rfl) ?_; conv => whnf)
    | (refine mapK_lit ?_; conv => whnf)
    | (refine br_split (fun _ => ?_) (fun _ => ?_) <;> conv => whnf)
    | exact (rfl : (_ : Value) = _)
    | (simp only [*]; exact (rfl : (_ : Value) = _))
    | (simp [*]; done))

theorem c_spec_ParsePoints_nil   : CallOK Tryz.prog n_spec_ParsePoints [.string ⟨#[]⟩] [] (fun v m_ => v = t2 (.slice (some ⟨0, 0, none⟩) 0 0) (ii 0) ∧ m_ = [([], some 38)]) := by
  refine callOK_ofF good fn_spec_ParsePoints ?_
  conv => whnf
  all_goals (repeat' first
    | (refine CallOK.useR (c_l01ReadList_nil ) [] rfl rfl rfl trivial (fun v_ mem_ hR => ?_); obtain ⟨rfl, rfl⟩ := hR; refine ⟨rfl, ?_⟩; conv => whnf)
    | exact out_forget [] ⟨rfl, rfl⟩ rfl (okB2_spec rfl) ⟨⟨⟨_, rfl, .plain rfl rfl (by first | exact Plain.of rfl | exact Row.all (by assumption))⟩⟩, trivial⟩ rfl rfl
    | exact out_forget [_] ⟨rfl, rfl⟩ rfl (okB2_spec rfl) ⟨⟨⟨_, rfl, .plain rfl rfl (by first | exact Plain.of rfl | exact Row.all (by assumption))⟩⟩, trivial⟩ rfl rfl
    | (refine StoreK.mk rfl ?_; conv => whnf)
    | exact join_same
    | exact (by assumption : (_ : Bool) = (_ : Bool))
    | (refine br_true (by assumption) ?_; conv => whnf)
    | (refine br_false (by assumption) ?_; conv => whnf)
    | (refine br_not ?_; conv => whnf)
    | (refine br_code ?_; conv => whnf)
    | (with_reducible refine br_and ?_; conv => whnf)
    | (with_reducible refine br_or ?_; conv => whnf)
    | (refine br_eq2 ?_; conv => whnf)
    | (refine draw_auto (by decide +kernel) ?_; conv => whnf)
    | (refine draw_asg (by decide +kernel) ?_; conv => whnf)
    | (refine draw_st (by decide +kernel) ?_; conv => whnf)
    | (refine draw_call (by decide +kernel) ?_; conv => whnf)
    | (refine enter_same (loop_n 12 ?_); conv => whnf)
    | (refine next_same ?_; conv => whnf)
    | (refine mapK_row (by assumption) ?_; conv => whnf)
    | (refine mapK_plain (Plain.of rfl) ?_; conv => whnf)
    | (refine mapK_lit ?_; conv => whnf)
    | (refine br_split (fun _ => ?_) (fun _ => ?_) <;> conv => whnf)
    | exact (rfl : (_ : Value) = _)
    | (simp only [*]; exact (rfl : (_ : Value) = _))
    | (simp [*]; done))

end Go.Proofs.YtlkbfpklhncfbaaGreatDoor
end

section
/-
  Contracts of functions of the program (printed by a program of this work; Lean checks each).
  Conditions: as each contract states.
-/
namespace Go.Proofs.YtlkbfpklhncfbaaGreatDoor
open Go.Ev Go.RowKit
open Go.Shelf Go.Lib Go.Proofs
set_option maxRecDepth 100000
set_option linter.unusedVariables false
set_option linter.unusedSimpArgs false

def splLay_ren : Go.Shelf.Ren := ⟨fun | 147 => 65 | 221 => 90 | 268 => 105 | 138 => 106 | 143 => 107 | 195 => 122 | 197 => 123 | 218 => 124 | 219 => 96 | 260 => 134 | 217 => 111 | 225 => 112 | 224 => 113 | 267 => 114 | 266 => 129 | 314 => 130 | n => n, fun | 9 => 9 | 3 => 3 | 31 => 87 | 4 => 4 | 0 => 0 | 105 => 145 | 21 => 21 | 5 => 5 | 46 => 108 | 119 => 166 | 139 => 169 | 138 => 168 | 146 => 153 | 51 => 152 | n => n, fun | 1 => 0 | 3 => 4 | 4 => 5 | n => n⟩
theorem splLay : Go.Proofs.Lays.n147 Tryz.prog splLay_ren := {
  mixed := by kernel_rfl
  f138 := Tryz.func106.trans (congrArg some (by kernel_rfl))
  f143 := Tryz.func107.trans (congrArg some (by kernel_rfl))
  f147 := Tryz.func65.trans (congrArg some (by kernel_rfl))
  f195 := Tryz.func122.trans (congrArg some (by kernel_rfl))
  f197 := Tryz.func123.trans (congrArg some (by kernel_rfl))
  f217 := Tryz.func111.trans (congrArg some (by kernel_rfl))
  f218 := Tryz.func124.trans (congrArg some (by kernel_rfl))
  f219 := Tryz.func96.trans (congrArg some (by kernel_rfl))
  f221 := Tryz.func90.trans (congrArg some (by kernel_rfl))
  f224 := Tryz.func113.trans (congrArg some (by kernel_rfl))
  f225 := Tryz.func112.trans (congrArg some (by kernel_rfl))
  f260 := Tryz.func134.trans (congrArg some (by kernel_rfl))
  f266 := Tryz.func129.trans (congrArg some (by kernel_rfl))
  f267 := Tryz.func114.trans (congrArg some (by kernel_rfl))
  f268 := Tryz.func105.trans (congrArg some (by kernel_rfl))
  f314 := Tryz.func130.trans (congrArg some (by kernel_rfl))
  t0 := Tryz.underlying0
  a0 := Tryz.isAgg0
  z0 := Tryz.sizeOf0
  v0 := Tryz.zeroValue0
  t3 := Tryz.underlying3
  a3 := Tryz.isAgg3
  z3 := Tryz.sizeOf3
  v3 := Tryz.zeroValue3
  t4 := Tryz.underlying4
  a4 := Tryz.isAgg4
  z4 := Tryz.sizeOf4
  v4 := Tryz.zeroValue4
  t5 := Tryz.underlying5
  a5 := Tryz.isAgg5
  z5 := Tryz.sizeOf5
  v5 := Tryz.zeroValue5
  t9 := Tryz.underlying9
  a9 := Tryz.isAgg9
  z9 := Tryz.sizeOf9
  v9 := Tryz.zeroValue9
  t21 := Tryz.underlying21
  a21 := Tryz.isAgg21
  z21 := Tryz.sizeOf21
  v21 := Tryz.zeroValue21
  t31 := Tryz.underlying87
  a31 := Tryz.isAgg87
  z31 := Tryz.sizeOf87
  v31 := Tryz.zeroValue87
  t46 := Tryz.underlying108
  a46 := Tryz.isAgg108
  z46 := Tryz.sizeOf108
  v46 := Tryz.zeroValue108
  t51 := Tryz.underlying152
  a51 := Tryz.isAgg152
  z51 := Tryz.sizeOf152
  v51 := Tryz.zeroValue152
  t105 := Tryz.underlying145
  a105 := Tryz.isAgg145
  z105 := Tryz.sizeOf145
  v105 := Tryz.zeroValue145
  t119 := Tryz.underlying166
  a119 := Tryz.isAgg166
  z119 := Tryz.sizeOf166
  t138 := Tryz.underlying168
  a138 := Tryz.isAgg168
  z138 := Tryz.sizeOf168
  v138 := Tryz.zeroValue168
  t139 := Tryz.underlying169
  a139 := Tryz.isAgg169
  z139 := Tryz.sizeOf169
  v139 := Tryz.zeroValue169
  t146 := Tryz.underlying153
  a146 := Tryz.isAgg153
  z146 := Tryz.sizeOf153
  v146 := Tryz.zeroValue153
  g1 := by kernel_rfl
  g3 := by kernel_rfl
  g4 := by kernel_rfl }

theorem tl_splitB (l : List ByteArray) : l.map Value.string = tl (l.map (·.data.toList)) := by
  unfold tl
  rw [List.map_map]
  refine List.map_congr_left fun b _ => ?_
  show Value.string b = .string ⟨b.data.toList.toArray⟩
  congr 1
theorem tl_plain (ps : List (List UInt8)) : Plain (tl ps) := by
  intro v hv
  unfold tl at hv
  rw [List.mem_map] at hv
  obtain ⟨p, _, rfl⟩ := hv
  rfl
theorem c_SplitN {z : ByteArray} (hz : z.size < 4294967281) : CallOK Tryz.prog n_strings_SplitN [.string z, .string ⟨#[59]⟩, ii 101] [] (fun v m_ => ∃ n c sp, n = (parts z).length ∧ Row (tl (parts z)) sp n c 1 ∧ v = .slice (some ⟨0, 0, none⟩) n c ∧ m_ = [(tl (parts z) ++ sp, some 9)]) :=
  ⟨fn_strings_SplitN.enters, fun w0 ρ w hm hargs => by
    have hl := hm.now
    obtain ⟨m, hmx⟩ := hl.mx
    have hr : ρ = [] := List.length_eq_zero_iff.1 hm.len
    subst hr
    refine (Any.strings_SplitN splLay (by kernel_rfl) z ⟨#[59]⟩ 101 m w hz hmx (by decide) (by omega) (by omega)).mono fun e w' ⟨he, hw⟩ => ?_
    have hd : (Lib.splitB ⟨#[59]⟩ 0 (min 101 (z.size + 1) - 1) z).map (·.data.toList) = parts z := Lib.splitB_data _ _ _ _
    have hn : (Lib.splitB ⟨#[59]⟩ 0 (min 101 (z.size + 1) - 1) z).length = (parts z).length := by rw [← hd, List.length_map]
    have hle := Lib.splitB_length_le ⟨#[59]⟩ 0 (min 101 (z.size + 1) - 1) z
    have hrow : Row (tl (parts z)) (List.replicate (min 101 (z.size + 1) - (parts z).length) (.string ByteArray.empty)) (parts z).length (min 101 (z.size + 1)) 1 :=
      ⟨by rw [tl_len]; omega, by rw [tl_len, List.length_replicate]; omega, tl_plain _, fun v hv => by rw [List.eq_of_mem_replicate hv]; rfl⟩
    have hcs : ∀ v ∈ tl (parts z) ++ List.replicate (min 101 (z.size + 1) - (parts z).length) (.string ByteArray.empty), ok0 (List.length ([] : List Nat)) v := fun v hv => (plain0_ok (hrow.all v hv) 0 []).1
    refine ⟨.slice (some ⟨0, 0, none⟩) (parts z).length (min 101 (z.size + 1)), [(tl (parts z) ++ List.replicate (min 101 (z.size + 1) - (parts z).length) (.string ByteArray.empty), some 9)], [w.heap.size], ?_, ?_, ?_, _, _, _, rfl, hrow, rfl, rfl⟩
    · rw [he, hn]; rfl
    · exact Nat.zero_lt_one
    · have ha := hm.alloc hcs 9
      have e : w.alloc (.cells ((tl (parts z) ++ List.replicate (min 101 (z.size + 1) - (parts z).length) (Value.string ByteArray.empty)).map (conc0 [])).toArray 9) = w' := by
        rw [hw, map_plain fun v hv => (plain0_ok (hrow.all v hv) 0 []).2]
        unfold Lib.cellsOf
        rw [tl_splitB, hd, hn]
        rfl
      rw [e] at ha
      exact ha⟩

attribute [local irreducible] isPtF Lib.itoa Lib.cut pint ptxt numS foldD sgnV sgnB splitC readS tl parts

set_option maxHeartbeats 1000000 in
theorem c_impl_ParsePoints_ok {z : ByteArray} {Q : List (Int × Int)} (hz : z.size < 4294967281) (hne : (z.data.toList == []) = false) (hq : Reads z Q) : CallOK Tryz.prog n_impl_ParsePoints [.string z] [] (fun v m_ => ∃ n c sp, Row (pl Q) sp n c 2 ∧ v = t2 (.slice (some ⟨0, 0, none⟩) n c) (ii 0) ∧ m_ = [(pl Q ++ sp, some 38)]) := by
  refine callOK_ofF good fn_impl_ParsePoints ?_
  conv => whnf
  all_goals (repeat' first
    | (refine br_false hne ?_; conv => whnf)
    | (refine CallOK.useR (c_SplitN hz) [] rfl rfl rfl trivial (fun v_ mem_ hR => ?_); obtain ⟨n_, c_, sp_, rfl, hrow_, rfl, rfl⟩ := hR; refine ⟨rfl, ?_⟩; conv => whnf)
    | (refine br_in hI.1.lo (of_decide_eq_true (by assumption)) ?_; conv => whnf)
    | (refine force_eq (take_tl1 (ps := parts z) (i := i.toNat) ?_ ?_) ?_; (focus (simp only [Nat.mul_one, Nat.zero_add]; done)); (focus (have := hI.1.lo; have := of_decide_eq_true (by assumption : decide (i < ((parts z).length : Int)) = true); omega)); conv => whnf)
    | (refine CallOK.useR (c_impl_ParsePoint_b (parts_size hz)) [] rfl rfl rfl trivial (fun v_ mem_ hR => ?_); obtain ⟨p_, hr_, rfl, rfl⟩ | ⟨hr_, rfl, rfl⟩ := hR <;> (refine ⟨rfl, ?_⟩; conv => whnf))
    | exact (hI.1.good (by assumption) hq.parts hr_).elim
    | exact (hI.1.full (by assumption) hq (by assumption)).elim
    | (refine enter_forget [0, 1] (loop_rec (fun (s : Int × (List Value) × (List (Int × Int)) × (List Value) × Nat × Nat) => match s with | (i, L, P, sp, n, c) => [.string z, wild, wild, wild, .slice (some ⟨0, 0, none⟩) n c, wild, wild, wild, wild, wild, wild, wild, wild, .slice (some ⟨1, 0, none⟩) (parts z).length c_, ii ((parts z).length : Int), ii i, wild, wild, wild, wild, wild, wild, wild, wild, wild, wild, wild, wild, wild, wild, wild, wild, wild, wild, wild, wild, wild]) (fun (s : Int × (List Value) × (List (Int × Int)) × (List Value) × Nat × Nat) => match s with | (i, L, P, sp, n, c) => [(L ++ sp, some 38), (tl (parts z) ++ sp_, some 9)]) (fun (s : Int × (List Value) × (List (Int × Int)) × (List Value) × Nat × Nat) => match s with | (i, L, P, sp, n, c) => (((parts z).length : Int) - i).toNat) (fun (s : Int × (List Value) × (List (Int × Int)) × (List Value) × Nat × Nat) => match s with | (i, L, P, sp, n, c) => RdI (parts z) i L P sp n c ∧ n ≤ 100) (0, [], [], [], 0, 0) ⟨RdI.start _, Nat.zero_le _⟩ ?_) (tmR_rfl rfl rfl) ⟨⟨⟨_, rfl, .plain rfl rfl (fun _ h_ => by cases h_)⟩⟩, ⟨⟨_, rfl, .plain rfl rfl (Row.all hrow_)⟩⟩, trivial⟩ rfl rfl; rintro fuel_ ⟨i, L, P, sp, n, c⟩ hI IH; replace hI : RdI (parts z) i L P sp n c ∧ n ≤ 100 := hI; conv => whnf)
    | exact next_forget [0, 1] (IH (_, _, _, _, _, _) (by exact ⟨hI.1.next hI.1.small (by assumption) hr_ ra_, hI.1.room (by assumption) (by assumption)⟩) (by exact hI.1.mu hI.1.small (by assumption))) (tmR_rfl rfl rfl) ⟨⟨⟨_, rfl, .plain rfl rfl (Row.all ra_)⟩⟩, ⟨⟨_, rfl, .plain rfl rfl (Row.all hrow_)⟩⟩, trivial⟩ rfl rfl
    | exact next_forget [2, 1] (IH (_, _, _, _, _, _) (by exact ⟨hI.1.next hI.1.small (by assumption) hr_ ra_, hI.1.room (by assumption) (by assumption)⟩) (by exact hI.1.mu hI.1.small (by assumption))) (tmR_rfl rfl rfl) ⟨⟨⟨_, rfl, .plain rfl rfl (Row.all ra_)⟩⟩, ⟨⟨_, rfl, .plain rfl rfl (Row.all hrow_)⟩⟩, trivial⟩ rfl rfl
    | exact next_forget [3, 1] (IH (_, _, _, _, _, _) (by exact ⟨hI.1.next hI.1.small (by assumption) hr_ ra_, hI.1.room (by assumption) (by assumption)⟩) (by exact hI.1.mu hI.1.small (by assumption))) (tmR_rfl rfl rfl) ⟨⟨⟨_, rfl, .plain rfl rfl (Row.all ra_)⟩⟩, ⟨⟨_, rfl, .plain rfl rfl (Row.all hrow_)⟩⟩, trivial⟩ rfl rfl
    | exact next_forget [4, 1] (IH (_, _, _, _, _, _) (by exact ⟨hI.1.next hI.1.small (by assumption) hr_ ra_, hI.1.room (by assumption) (by assumption)⟩) (by exact hI.1.mu hI.1.small (by assumption))) (tmR_rfl rfl rfl) ⟨⟨⟨_, rfl, .plain rfl rfl (Row.all ra_)⟩⟩, ⟨⟨_, rfl, .plain rfl rfl (Row.all hrow_)⟩⟩, trivial⟩ rfl rfl
    | (show AppK _ _ _ 2 _ _ _ _ _; refine app_lit hI.1.row rfl rfl rfl (Plain.of rfl) rfl rfl (by decide) (by have := hI.1.cnt; have := hI.1.hi; have := parts_len z; show (_ + 1) * 16 ≤ _; omega) (by have := hI.1.cnt; have := hI.1.hi; have := parts_len z; omega) (fun hle_ spa_ ra_ => ?_) (fun hle_ ca_ spa_ ra_ => ?_) <;> conv => whnf)
    | (obtain ⟨he_, hrow2_⟩ := hI.1.fin (by assumption) hq.parts; rw [he_]; exact out_forget [_] ⟨_, _, _, hrow2_, rfl, rfl⟩ rfl (okB2_spec rfl) ⟨⟨_, rfl, .plain rfl rfl (Row.all hrow2_)⟩, trivial⟩ rfl rfl)
    | (refine StoreK.mk rfl ?_; conv => whnf)
    | exact join_same
    | exact (by assumption : (_ : Bool) = (_ : Bool))
    | (refine br_true (by assumption) ?_; conv => whnf)
    | (refine br_false (by assumption) ?_; conv => whnf)
    | (refine br_not ?_; conv => whnf)
    | (refine br_code ?_; conv => whnf)
    | (with_reducible refine br_and ?_; conv => whnf)
    | (with_reducible refine br_or ?_; conv => whnf)
    | (refine br_eq2 ?_; conv => whnf)
    | (refine draw_auto (by decide +kernel) ?_; conv => whnf)
    | (refine draw_asg (by decide +kernel) ?_; conv => whnf)
    | (refine draw_st (by decide +kernel) ?_; conv => whnf)
    | (refine draw_call (by decide +kernel) ?_; conv => whnf)
    | (refine next_same ?_; conv => whnf)
    | (refine mapK_row (by assumption) ?_; conv => whnf)
    | (refine mapK_plain (Plain.of rfl) ?_; conv => whnf)
    | (refine mapK_lit ?_; conv => whnf)
    | (refine br_split (fun _ => ?_) (fun _ => ?_) <;> conv => whnf)
    | exact (rfl : (_ : Value) = _)
    | (simp only [*]; exact (rfl : (_ : Value) = _))
    | (simp [*]; done))

set_option maxHeartbeats 1000000 in
theorem c_impl_ParsePoints_no {z : ByteArray} (hz : z.size < 4294967281) (hne : (z.data.toList == []) = false) (hq : NoRead z) : CallOK Tryz.prog n_impl_ParsePoints [.string z] [] (fun v m_ => v = t2 (.slice none 0 0) (ii 6) ∧ m_ = []) := by
  refine callOK_ofF good fn_impl_ParsePoints ?_
  conv => whnf
  all_goals (repeat' first
    | (refine br_false hne ?_; conv => whnf)
    | (refine CallOK.useR (c_SplitN hz) [] rfl rfl rfl trivial (fun v_ mem_ hR => ?_); obtain ⟨n_, c_, sp_, rfl, hrow_, rfl, rfl⟩ := hR; refine ⟨rfl, ?_⟩; conv => whnf)
    | (refine br_in hI.1.lo (of_decide_eq_true (by assumption)) ?_; conv => whnf)
    | (refine force_eq (take_tl1 (ps := parts z) (i := i.toNat) ?_ ?_) ?_; (focus (simp only [Nat.mul_one, Nat.zero_add]; done)); (focus (have := hI.1.lo; have := of_decide_eq_true (by assumption : decide (i < ((parts z).length : Int)) = true); omega)); conv => whnf)
    | (refine CallOK.useR (c_impl_ParsePoint_b (parts_size hz)) [] rfl rfl rfl trivial (fun v_ mem_ hR => ?_); obtain ⟨p_, hr_, rfl, rfl⟩ | ⟨hr_, rfl, rfl⟩ := hR <;> (refine ⟨rfl, ?_⟩; conv => whnf))
    | (refine enter_forget [0, 1] (loop_rec (fun (s : Int × (List Value) × (List (Int × Int)) × (List Value) × Nat × Nat) => match s with | (i, L, P, sp, n, c) => [.string z, wild, wild, wild, .slice (some ⟨0, 0, none⟩) n c, wild, wild, wild, wild, wild, wild, wild, wild, .slice (some ⟨1, 0, none⟩) (parts z).length c_, ii ((parts z).length : Int), ii i, wild, wild, wild, wild, wild, wild, wild, wild, wild, wild, wild, wild, wild, wild, wild, wild, wild, wild, wild, wild, wild]) (fun (s : Int × (List Value) × (List (Int × Int)) × (List Value) × Nat × Nat) => match s with | (i, L, P, sp, n, c) => [(L ++ sp, some 38), (tl (parts z) ++ sp_, some 9)]) (fun (s : Int × (List Value) × (List (Int × Int)) × (List Value) × Nat × Nat) => match s with | (i, L, P, sp, n, c) => (((parts z).length : Int) - i).toNat) (fun (s : Int × (List Value) × (List (Int × Int)) × (List Value) × Nat × Nat) => match s with | (i, L, P, sp, n, c) => RdI (parts z) i L P sp n c ∧ n ≤ 100) (0, [], [], [], 0, 0) ⟨RdI.start _, Nat.zero_le _⟩ ?_) (tmR_rfl rfl rfl) ⟨⟨⟨_, rfl, .plain rfl rfl (fun _ h_ => by cases h_)⟩⟩, ⟨⟨_, rfl, .plain rfl rfl (Row.all hrow_)⟩⟩, trivial⟩ rfl rfl; rintro fuel_ ⟨i, L, P, sp, n, c⟩ hI IH; replace hI : RdI (parts z) i L P sp n c ∧ n ≤ 100 := hI; conv => whnf)
    | exact next_forget [0, 1] (IH (_, _, _, _, _, _) (by exact ⟨hI.1.next hI.1.small (by assumption) hr_ ra_, hI.1.room (by assumption) (by assumption)⟩) (by exact hI.1.mu hI.1.small (by assumption))) (tmR_rfl rfl rfl) ⟨⟨⟨_, rfl, .plain rfl rfl (Row.all ra_)⟩⟩, ⟨⟨_, rfl, .plain rfl rfl (Row.all hrow_)⟩⟩, trivial⟩ rfl rfl
    | exact next_forget [2, 1] (IH (_, _, _, _, _, _) (by exact ⟨hI.1.next hI.1.small (by assumption) hr_ ra_, hI.1.room (by assumption) (by assumption)⟩) (by exact hI.1.mu hI.1.small (by assumption))) (tmR_rfl rfl rfl) ⟨⟨⟨_, rfl, .plain rfl rfl (Row.all ra_)⟩⟩, ⟨⟨_, rfl, .plain rfl rfl (Row.all hrow_)⟩⟩, trivial⟩ rfl rfl
    | exact next_forget [3, 1] (IH (_, _, _, _, _, _) (by exact ⟨hI.1.next hI.1.small (by assumption) hr_ ra_, hI.1.room (by assumption) (by assumption)⟩) (by exact hI.1.mu hI.1.small (by assumption))) (tmR_rfl rfl rfl) ⟨⟨⟨_, rfl, .plain rfl rfl (Row.all ra_)⟩⟩, ⟨⟨_, rfl, .plain rfl rfl (Row.all hrow_)⟩⟩, trivial⟩ rfl rfl
    | exact next_forget [4, 1] (IH (_, _, _, _, _, _) (by exact ⟨hI.1.next hI.1.small (by assumption) hr_ ra_, hI.1.room (by assumption) (by assumption)⟩) (by exact hI.1.mu hI.1.small (by assumption))) (tmR_rfl rfl rfl) ⟨⟨⟨_, rfl, .plain rfl rfl (Row.all ra_)⟩⟩, ⟨⟨_, rfl, .plain rfl rfl (Row.all hrow_)⟩⟩, trivial⟩ rfl rfl
    | (show AppK _ _ _ 2 _ _ _ _ _; refine app_lit hI.1.row rfl rfl rfl (Plain.of rfl) rfl rfl (by decide) (by have := hI.1.cnt; have := hI.1.hi; have := parts_len z; show (_ + 1) * 16 ≤ _; omega) (by have := hI.1.cnt; have := hI.1.hi; have := parts_len z; omega) (fun hle_ spa_ ra_ => ?_) (fun hle_ ca_ spa_ ra_ => ?_) <;> conv => whnf)
    | exact (hI.1.bad (by assumption) hq hI.2).elim
    | exact out_forget [] ⟨rfl, rfl⟩ rfl (okB2_spec rfl) trivial rfl rfl
    | (refine StoreK.mk rfl ?_; conv => whnf)
    | exact join_same
    | exact (by assumption : (_ : Bool) = (_ : Bool))
    | (refine br_true (by assumption) ?_; conv => whnf)
    | (refine br_false (by assumption) ?_; conv => whnf)
    | (refine br_not ?_; conv => whnf)
    | (refine br_code ?_; conv => whnf)
    | (with_reducible refine br_and ?_; conv => whnf)
    | (with_reducible refine br_or ?_; conv => whnf)
    | (refine br_eq2 ?_; conv => whnf)
    | (refine draw_auto (by decide +kernel) ?_; conv => whnf)
    | (refine draw_asg (by decide +kernel) ?_; conv => whnf)
    | (refine draw_st (by decide +kernel) ?_; conv => whnf)
    | (refine draw_call (by decide +kernel) ?_; conv => whnf)
    | (refine next_same ?_; conv => whnf)
    | (refine mapK_row (by assumption) ?_; conv => whnf)
    | (refine mapK_plain (Plain.of rfl) ?_; conv => whnf)
    | (refine mapK_lit ?_; conv => whnf)
    | (refine br_split (fun _ => ?_) (fun _ => ?_) <;> conv => whnf)
    | exact (rfl : (_ : Value) = _)
    | (simp only [*]; exact (rfl : (_ : Value) = _))
    | (simp [*]; done))

theorem c_impl_ParsePoints_nil   : Pure Tryz.prog n_impl_ParsePoints [.string ⟨#[]⟩] (t2 (.slice none 0 0) (ii 0)) := by
  refine pure_of good fn_impl_ParsePoints rfl rfl ?_
  conv => whnf
  all_goals (repeat' first
    | (refine StoreK.mk rfl ?_; conv => whnf)
    | exact join_same
    | exact (by assumption : (_ : Bool) = (_ : Bool))
    | (refine br_true (by assumption) ?_; conv => whnf)
    | (refine br_false (by assumption) ?_; conv => whnf)
    | (refine br_not ?_; conv => whnf)
    | (refine br_code ?_; conv => whnf)
    | (with_reducible refine br_and ?_; conv => whnf)
    | (with_reducible refine br_or ?_; conv => whnf)
    | (refine br_eq2 ?_; conv => whnf)
    | (refine draw_auto (by decide +kernel) ?_; conv => whnf)
    | (refine draw_asg (by decide +kernel) ?_; conv => whnf)
    | (refine draw_st (by decide +kernel) ?_; conv => whnf)
    | (refine draw_call (by decide +kernel) ?_; conv => whnf)
    | (refine enter_same (loop_n 12 ?_); conv => whnf)
    | (refine next_same ?_; conv => whnf)
    | (refine mapK_row (by assumption) ?_; conv => whnf)
    | (refine mapK_plain (Plain.of rfl) ?_; conv => whnf)
    | (refine mapK_lit ?_; conv => whnf)
    | (refine br_split (fun _ => ?_) (fun _ => ?_) <;> conv => whnf)
    | exact (rfl : (_ : Value) = _)
    | (simp only [*]; exact (rfl : (_ : Value) = _))
    | (simp [*]; done))

end Go.Proofs.YtlkbfpklhncfbaaGreatDoor
end

section
/-
  Contracts of functions of the program (printed by a program of this work; Lean checks each).
  Conditions: as each contract states.
-/
namespace Go.Proofs.YtlkbfpklhncfbaaGreatDoor
open Go.Ev Go.RowKit
open Go.Shelf Go.Lib Go.Proofs
set_option maxRecDepth 100000
set_option linter.unusedVariables false
set_option linter.unusedSimpArgs false

def joinLay_ren : Go.Shelf.Ren := ⟨fun | 156 => 89 | 165 => 102 | 166 => 103 | 169 => 104 | 240 => 120 | 241 => 121 | 276 => 132 | 277 => 133 | n => n, fun | 31 => 87 | 9 => 9 | 3 => 3 | 4 => 4 | 0 => 0 | 20 => 20 | 72 => 127 | 76 => 129 | 70 => 125 | 37 => 22 | 75 => 80 | 127 => 143 | 164 => 158 | 5 => 5 | 80 => 75 | n => n, fun | n => n⟩
theorem joinLay : Go.Proofs.Lays.n156 Tryz.prog joinLay_ren := {
  mixed := by kernel_rfl
  f156 := Tryz.func89.trans (congrArg some (by kernel_rfl))
  f165 := Tryz.func102.trans (congrArg some (by kernel_rfl))
  f166 := Tryz.func103.trans (congrArg some (by kernel_rfl))
  f169 := Tryz.func104.trans (congrArg some (by kernel_rfl))
  f240 := Tryz.func120.trans (congrArg some (by kernel_rfl))
  f241 := Tryz.func121.trans (congrArg some (by kernel_rfl))
  f276 := Tryz.func132.trans (congrArg some (by kernel_rfl))
  f277 := Tryz.func133.trans (congrArg some (by kernel_rfl))
  t0 := Tryz.underlying0
  a0 := Tryz.isAgg0
  z0 := Tryz.sizeOf0
  v0 := Tryz.zeroValue0
  t3 := Tryz.underlying3
  a3 := Tryz.isAgg3
  z3 := Tryz.sizeOf3
  v3 := Tryz.zeroValue3
  t4 := Tryz.underlying4
  a4 := Tryz.isAgg4
  z4 := Tryz.sizeOf4
  v4 := Tryz.zeroValue4
  t9 := Tryz.underlying9
  a9 := Tryz.isAgg9
  z9 := Tryz.sizeOf9
  v9 := Tryz.zeroValue9
  t20 := Tryz.underlying20
  a20 := Tryz.isAgg20
  z20 := Tryz.sizeOf20
  v20 := Tryz.zeroValue20
  t31 := Tryz.underlying87
  a31 := Tryz.isAgg87
  z31 := Tryz.sizeOf87
  v31 := Tryz.zeroValue87
  t37 := Tryz.underlying22
  a37 := Tryz.isAgg22
  z37 := Tryz.sizeOf22
  v37 := Tryz.zeroValue22
  t70 := Tryz.underlying125
  a70 := Tryz.isAgg125
  z70 := Tryz.sizeOf125
  v70 := Tryz.zeroValue125
  t72 := Tryz.underlying127
  a72 := Tryz.isAgg127
  z72 := Tryz.sizeOf127
  v72 := Tryz.zeroValue127
  t75 := Tryz.underlying80
  a75 := Tryz.isAgg80
  z75 := Tryz.sizeOf80
  v75 := Tryz.zeroValue80
  t76 := Tryz.underlying129
  a76 := Tryz.isAgg129
  z76 := Tryz.sizeOf129
  v76 := Tryz.zeroValue129
  t127 := Tryz.underlying143
  a127 := Tryz.isAgg143
  z127 := Tryz.sizeOf143
  v127 := Tryz.zeroValue143
  t164 := Tryz.underlying158
  a164 := Tryz.isAgg158
  z164 := Tryz.sizeOf158
  v164 := Tryz.zeroValue158 }

theorem joinX : Go.Proofs.Builder.Extra Tryz.prog joinLay_ren where
  sizeBuilder := by kernel_rfl
  liesBuilder := by kernel_rfl
  t5 := Tryz.underlying5
  a5 := Tryz.isAgg5
  z5 := Tryz.sizeOf5
  v5 := Tryz.zeroValue5
  infoByte := by kernel_rfl
  cellsByte := by kernel_rfl
  sizeByte := by kernel_rfl
  neB5 := by decide
theorem tl_getE {ps : List (List UInt8)} {j : Nat} {x : ByteArray} (h : (ps.map fun p => (⟨p.toArray⟩ : ByteArray))[j]? = some x) : (tl ps)[j]? = some (.string x) := by
  unfold tl
  rw [List.getElem?_map] at h ⊢
  cases hp : ps[j]? with
  | none => rw [hp] at h; cases h
  | some p => rw [hp] at h; cases h; rfl
theorem c_Join {ps : List (List UInt8)} {sp : List Value} {n c : Nat} (h1 : Row (tl ps) sp n c 1) (hn : n ≤ 140737488355328) (hl : (Lib.join ps [59]).length ≤ 140737488355328) : CallR Tryz.prog n_strings_Join [.slice (some ⟨0, 0, none⟩) n c, .string ⟨#[59]⟩] [tl ps ++ sp] (bStr (Lib.join ps [59])) := by
  obtain rfl := row_tl h1
  have hc := h1.le (by decide)
  refine ⟨fn_strings_Join.enters, rfl, fun w ρ0 hl2 hro hlt => ?_⟩
  obtain ⟨k1, k2, k3⟩ := hro.at_ 0 _ rfl
  have e1 : (ps.map fun p => (⟨p.toArray⟩ : ByteArray)).map (·.data.toList) = ps := by rw [List.map_map]; exact (List.map_congr_left fun p _ => rfl).trans (List.map_id ps)
  have e2 : (ps.map fun p => (⟨p.toArray⟩ : ByteArray)).length = ps.length := List.length_map _
  have := Any.strings_Join joinLay joinX (ρ0.getD 0 0) 0 c (ps.map fun p => (⟨p.toArray⟩ : ByteArray)) ⟨#[59]⟩ w (fun j x hx => by
      rw [Nat.zero_add]
      refine k2 j (.string x) ?_
      have hj := tl_getE hx
      rw [List.getElem?_append_left (by have := List.getElem?_eq_some_iff.1 hj; exact this.1)]
      exact hj) k1 (by rw [e2]; exact hn) (by rw [e2]; exact hc) (by rw [e1]; exact hl)
  rw [e1, e2] at this
  exact this

attribute [local irreducible] isPtF Lib.itoa Lib.cut pint ptxt numS foldD sgnV sgnB splitC readS tl parts ltxt badP idxR

theorem badP_f {p : Int × Int} (h : isPtF p.1 p.2 = true) : badP p = false := by unfold badP; rw [h]; rfl
theorem badP_t {p : Int × Int} (h : isPtF p.1 p.2 = false) : badP p = true := by unfold badP; rw [h]; rfl

theorem c_index_pts {Q : List (Int × Int)} {sp : List Value} {n c : Nat} (h1 : Row (pl Q) sp n c 2) (hn : n ≤ 1048576) : CallOK Tryz.prog n_slices_IndexFunc_Point [.slice (some ⟨0, 0, none⟩) n c, fnv n_impl_points_1] [(pl Q ++ sp, none)] (fun v m_ => v = ii (idxR Q 0) ∧ m_ = [(pl Q ++ sp, none)]) := by
  obtain rfl := row_pl h1; refine callOK_ofF good fn_slices_IndexFunc_Point ?_
  conv => whnf
  all_goals (repeat' first
    | (refine enter_forget [] (loop_rec (fun (s : Int) => match s with | i => [.slice (some ⟨0, 0, none⟩) Q.length c, fnv n_impl_points_1, wild, wild, wild, wild, .slice (some ⟨0, 0, none⟩) Q.length c, ii (Q.length : Int), ii i, wild, wild, wild, wild, wild, wild, wild, wild, wild, wild]) (fun (s : Int) => match s with | i => [(pl Q ++ sp, none)]) (fun (s : Int) => match s with | i => ((Q.length : Int) - i).toNat) (fun (s : Int) => match s with | i => FirR Q i) (0) (FirR.start Q) ?_) (tmR_rfl rfl rfl) ⟨⟨⟨_, rfl, .plain rfl rfl (Row.all h1)⟩⟩, trivial⟩ rfl rfl; rintro fuel_ i hI IH; replace hI : FirR Q i := hI; conv => whnf)
    | exact next_forget [] (IH (w64 (i + 1)) (by exact hI.next (of_decide_eq_true (show decide (i < (Q.length : Int)) = true by assumption)) hn (badP_f (by assumption))) (by exact hI.mu (of_decide_eq_true (show decide (i < (Q.length : Int)) = true by assumption)) hn)) (tmR_rfl rfl rfl) ⟨⟨⟨_, rfl, .plain rfl rfl (Row.all h1)⟩⟩, trivial⟩ rfl rfl
    | (refine br_in hI.lo (of_decide_eq_true (show decide (i < (Q.length : Int)) = true by assumption)) ?_; conv => whnf)
    | (refine force_eq (take_pt (ps := Q) (i := (i).toNat) ?_ ?_) ?_; (focus (simp only [Nat.zero_add]; done)); (focus (have := hI.lo; have := (of_decide_eq_true (show decide (i < (Q.length : Int)) = true by assumption)); omega; done)); conv => whnf)
    | (exact out_forget [] ⟨congrArg (Value.int IntKind.i64) (hI.hit (of_decide_eq_true (show decide (i < (Q.length : Int)) = true by assumption)) (badP_t (by assumption))).symm, rfl⟩ rfl (okB2_spec rfl) ⟨⟨⟨_, rfl, .plain rfl rfl (Row.all h1)⟩⟩, trivial⟩ rfl rfl)
    | (exact out_forget [] ⟨congrArg (Value.int IntKind.i64) (hI.fin (of_decide_eq_false (show decide (i < (Q.length : Int)) = false by assumption))).symm, rfl⟩ rfl (okB2_spec rfl) ⟨⟨⟨_, rfl, .plain rfl rfl (Row.all h1)⟩⟩, trivial⟩ rfl rfl)
    | (refine StoreK.mk rfl ?_; conv => whnf)
    | exact join_same
    | exact (by assumption : (_ : Bool) = (_ : Bool))
    | (refine br_true (by assumption) ?_; conv => whnf)
    | (refine br_false (by assumption) ?_; conv => whnf)
    | (refine br_not ?_; conv => whnf)
    | (refine br_code ?_; conv => whnf)
    | (with_reducible refine br_and ?_; conv => whnf)
    | (with_reducible refine br_or ?_; conv => whnf)
    | (refine br_eq2 ?_; conv => whnf)
    | (refine c_impl_points_1.call ?_; conv => whnf)
    | (refine c_impl_points_1.quiet ?_; conv => whnf)
    | (refine draw_auto (by decide +kernel) ?_; conv => whnf)
    | (refine draw_asg (by decide +kernel) ?_; conv => whnf)
    | (refine draw_st (by decide +kernel) ?_; conv => whnf)
    | (refine draw_call (by decide +kernel) ?_; conv => whnf)
    | (refine enter_same (loop_n 12 ?_); conv => whnf)
    | (refine next_same ?_; conv => whnf)
    | (refine mapK_row (by assumption) ?_; conv => whnf)
    | (refine mapK_plain (Plain.of rfl) ?_; conv => whnf)
    | (refine mapK_lit ?_; conv => whnf)
    | (refine br_split (fun _ => ?_) (fun _ => ?_) <;> conv => whnf)
    | exact (rfl : (_ : Value) = _)
    | (simp only [*]; exact (rfl : (_ : Value) = _))
    | (simp [*]; done))

theorem c_contains_pts {Q : List (Int × Int)} {sp : List Value} {n c : Nat} (h1 : Row (pl Q) sp n c 2) (hn : n ≤ 1048576) : CallOK Tryz.prog n_slices_ContainsFunc_Point [.slice (some ⟨0, 0, none⟩) n c, fnv n_impl_points_1] [(pl Q ++ sp, none)] (fun v m_ => v = bb (Q.any badP) ∧ m_ = [(pl Q ++ sp, none)]) := by
  have e_ := idxR_ge Q 0 (by omega); refine callOK_ofF good fn_slices_ContainsFunc_Point ?_
  conv => whnf
  all_goals (repeat' first
    | (exact out_forget [] ⟨congrArg Value.bool e_, rfl⟩ rfl (okB2_spec rfl) ⟨⟨⟨_, rfl, .plain rfl rfl (Row.all h1)⟩⟩, trivial⟩ rfl rfl)
    | (refine StoreK.mk rfl ?_; conv => whnf)
    | exact join_same
    | exact (by assumption : (_ : Bool) = (_ : Bool))
    | (refine br_true (by assumption) ?_; conv => whnf)
    | (refine br_false (by assumption) ?_; conv => whnf)
    | (refine br_not ?_; conv => whnf)
    | (refine br_code ?_; conv => whnf)
    | (with_reducible refine br_and ?_; conv => whnf)
    | (with_reducible refine br_or ?_; conv => whnf)
    | (refine br_eq2 ?_; conv => whnf)
    | (refine CallOK.useR (c_index_pts (by first | assumption | exact Row.lit rfl rfl | omega) (by first | assumption | exact Row.lit rfl rfl | omega)) [_] rfl rfl rfl ⟨⟨⟨_, rfl, .plain rfl (fun _ h_ => by first | exact h_ | cases h_) (by first | exact Plain.of rfl | exact Row.all (by assumption))⟩⟩, trivial⟩ (fun v_ mem_ hR => ?_); obtain ⟨rfl, rfl⟩ := hR; refine ⟨rfl, ?_⟩; conv => whnf)
    | (refine draw_auto (by decide +kernel) ?_; conv => whnf)
    | (refine draw_asg (by decide +kernel) ?_; conv => whnf)
    | (refine draw_st (by decide +kernel) ?_; conv => whnf)
    | (refine draw_call (by decide +kernel) ?_; conv => whnf)
    | (refine enter_same (loop_n 12 ?_); conv => whnf)
    | (refine next_same ?_; conv => whnf)
    | (refine mapK_row (by assumption) ?_; conv => whnf)
    | (refine mapK_plain (Plain.of rfl) ?_; conv => whnf)
    | (refine mapK_lit ?_; conv => whnf)
    | (refine br_split (fun _ => ?_) (fun _ => ?_) <;> conv => whnf)
    | exact (rfl : (_ : Value) = _)
    | (simp only [*]; exact (rfl : (_ : Value) = _))
    | (simp [*]; done))

theorem c_points_pts {Q : List (Int × Int)} {sp : List Value} {n c : Nat} (h1 : Row (pl Q) sp n c 2) (hn : n ≤ 1048576) : CallOK Tryz.prog n_impl_points [.slice (some ⟨0, 0, none⟩) n c] [(pl Q ++ sp, none)] (fun v m_ => v = bb (!Q.any badP) ∧ m_ = [(pl Q ++ sp, none)]) := by
  refine callOK_ofF good fn_impl_points ?_
  conv => whnf
  all_goals (repeat' first
    | (exact out_forget [] ⟨rfl, rfl⟩ rfl (okB2_spec rfl) ⟨⟨⟨_, rfl, .plain rfl rfl (Row.all h1)⟩⟩, trivial⟩ rfl rfl)
    | (refine StoreK.mk rfl ?_; conv => whnf)
    | exact join_same
    | exact (by assumption : (_ : Bool) = (_ : Bool))
    | (refine br_true (by assumption) ?_; conv => whnf)
    | (refine br_false (by assumption) ?_; conv => whnf)
    | (refine br_not ?_; conv => whnf)
    | (refine br_code ?_; conv => whnf)
    | (with_reducible refine br_and ?_; conv => whnf)
    | (with_reducible refine br_or ?_; conv => whnf)
    | (refine br_eq2 ?_; conv => whnf)
    | (refine CallOK.useR (c_contains_pts (by first | assumption | exact Row.lit rfl rfl | omega) (by first | assumption | exact Row.lit rfl rfl | omega)) [_] rfl rfl rfl ⟨⟨⟨_, rfl, .plain rfl (fun _ h_ => by first | exact h_ | cases h_) (by first | exact Plain.of rfl | exact Row.all (by assumption))⟩⟩, trivial⟩ (fun v_ mem_ hR => ?_); obtain ⟨rfl, rfl⟩ := hR; refine ⟨rfl, ?_⟩; conv => whnf)
    | (refine c_impl_points_1.call ?_; conv => whnf)
    | (refine c_impl_points_1.quiet ?_; conv => whnf)
    | (refine draw_auto (by decide +kernel) ?_; conv => whnf)
    | (refine draw_asg (by decide +kernel) ?_; conv => whnf)
    | (refine draw_st (by decide +kernel) ?_; conv => whnf)
    | (refine draw_call (by decide +kernel) ?_; conv => whnf)
    | (refine enter_same (loop_n 12 ?_); conv => whnf)
    | (refine next_same ?_; conv => whnf)
    | (refine mapK_row (by assumption) ?_; conv => whnf)
    | (refine mapK_plain (Plain.of rfl) ?_; conv => whnf)
    | (refine mapK_lit ?_; conv => whnf)
    | (refine br_split (fun _ => ?_) (fun _ => ?_) <;> conv => whnf)
    | exact (rfl : (_ : Value) = _)
    | (simp only [*]; exact (rfl : (_ : Value) = _))
    | (simp [*]; done))

theorem c_code_pts {Q : List (Int × Int)} {sp : List Value} {n c : Nat} (h1 : Row (pl Q) sp n c 2) (hn : n ≤ 1048576) : CallOK Tryz.prog n_spec_l01Code [.slice (some ⟨0, 0, none⟩) n c] [(pl Q ++ sp, none)] (fun v m_ => v = ii (if Q.any badP = true then 1 else 0) ∧ m_ = [(pl Q ++ sp, none)]) := by
  obtain rfl := row_pl h1; refine callOK_ofF good fn_spec_l01Code ?_
  conv => whnf
  all_goals (repeat' first
    | (refine enter_forget [] (loop_rec (fun (s : Int) => match s with | i => [.slice (some ⟨0, 0, none⟩) Q.length c, wild, wild, ii i, wild, wild, wild, wild, wild, wild, wild, wild, wild, wild, wild, wild]) (fun (s : Int) => match s with | i => [(pl Q ++ sp, none)]) (fun (s : Int) => match s with | i => ((Q.length : Int) - i).toNat) (fun (s : Int) => match s with | i => CodI Q i) (0) (CodI.start Q) ?_) (tmR_rfl rfl rfl) ⟨⟨⟨_, rfl, .plain rfl rfl (Row.all h1)⟩⟩, trivial⟩ rfl rfl; rintro fuel_ i hI IH; replace hI : CodI Q i := hI; conv => whnf)
    | exact next_forget [] (IH (w64 (i + 1)) (by exact hI.next (of_decide_eq_true (show decide (i < (Q.length : Int)) = true by assumption)) hn (by assumption)) (by exact hI.mu (of_decide_eq_true (show decide (i < (Q.length : Int)) = true by assumption)) hn)) (tmR_rfl rfl rfl) ⟨⟨⟨_, rfl, .plain rfl rfl (Row.all h1)⟩⟩, trivial⟩ rfl rfl
    | (refine br_in hI.lo (of_decide_eq_true (show decide (i < (Q.length : Int)) = true by assumption)) ?_; conv => whnf)
    | (refine force_eq (take_pt (ps := Q) (i := (i).toNat) ?_ ?_) ?_; (focus (simp only [Nat.zero_add]; done)); (focus (have := hI.lo; have := (of_decide_eq_true (show decide (i < (Q.length : Int)) = true by assumption)); omega; done)); conv => whnf)
    | (exact out_forget [] ⟨congrArg (Value.int IntKind.i64) (if_pos (hI.bad (of_decide_eq_true (show decide (i < (Q.length : Int)) = true by assumption)) (by assumption))).symm, rfl⟩ rfl (okB2_spec rfl) ⟨⟨⟨_, rfl, .plain rfl rfl (Row.all h1)⟩⟩, trivial⟩ rfl rfl)
    | (exact out_forget [] ⟨congrArg (Value.int IntKind.i64) (if_neg (by rw [hI.fin (of_decide_eq_false (show decide (i < (Q.length : Int)) = false by assumption))]; exact Bool.false_ne_true)).symm, rfl⟩ rfl (okB2_spec rfl) ⟨⟨⟨_, rfl, .plain rfl rfl (Row.all h1)⟩⟩, trivial⟩ rfl rfl)
    | (refine StoreK.mk rfl ?_; conv => whnf)
    | exact join_same
    | exact (by assumption : (_ : Bool) = (_ : Bool))
    | (refine br_true (by assumption) ?_; conv => whnf)
    | (refine br_false (by assumption) ?_; conv => whnf)
    | (refine br_not ?_; conv => whnf)
    | (refine br_code ?_; conv => whnf)
    | (with_reducible refine br_and ?_; conv => whnf)
    | (with_reducible refine br_or ?_; conv => whnf)
    | (refine br_eq2 ?_; conv => whnf)
    | (refine c_spec_l01Is.call ?_; conv => whnf)
    | (refine c_spec_l01Is.quiet ?_; conv => whnf)
    | (refine draw_auto (by decide +kernel) ?_; conv => whnf)
    | (refine draw_asg (by decide +kernel) ?_; conv => whnf)
    | (refine draw_st (by decide +kernel) ?_; conv => whnf)
    | (refine draw_call (by decide +kernel) ?_; conv => whnf)
    | (refine enter_same (loop_n 12 ?_); conv => whnf)
    | (refine next_same ?_; conv => whnf)
    | (refine mapK_row (by assumption) ?_; conv => whnf)
    | (refine mapK_plain (Plain.of rfl) ?_; conv => whnf)
    | (refine mapK_lit ?_; conv => whnf)
    | (refine br_split (fun _ => ?_) (fun _ => ?_) <;> conv => whnf)
    | exact (rfl : (_ : Value) = _)
    | (simp only [*]; exact (rfl : (_ : Value) = _))
    | (simp [*]; done))

end Go.Proofs.YtlkbfpklhncfbaaGreatDoor
end

section
/-
  Contracts of functions of the program (printed by a program of this work; Lean checks each).
  Conditions: as each contract states.
-/
namespace Go.Proofs.YtlkbfpklhncfbaaGreatDoor
open Go.Ev Go.RowKit
open Go.Shelf Go.Lib Go.Proofs
set_option maxRecDepth 100000
set_option linter.unusedVariables false
set_option linter.unusedSimpArgs false

attribute [local irreducible] isPtF Lib.itoa Lib.cut pint ptxt numS foldD sgnV sgnB splitC readS tl parts ltxt badP idxR Lib.join

set_option maxHeartbeats 1000000 in
theorem c_texts {Q : List (Int × Int)} {sp : List Value} {n c : Nat} (h1 : Row (pl Q) sp n c 2) (hn : n ≤ 1048576) (hb : Q.any badP = false) (h100 : n ≤ 100) : CallOK Tryz.prog n_impl_texts [.slice (some ⟨0, 0, none⟩) n c] [(pl Q ++ sp, none)] (fun v m_ => v = bStr (ltxt Q) ∧ m_ = [(pl Q ++ sp, none)]) := by
  obtain rfl := row_pl h1; refine callOK_ofF good fn_impl_texts ?_
  conv => whnf
  all_goals (repeat' first
    | (refine enter_forget [1] (loop_rec (fun (s : Int × (List Value) × (List Value) × Nat × Nat) => match s with | (i, L, sq, m, e) => [.slice (some ⟨0, 0, none⟩) Q.length c, wild, wild, .slice (some ⟨1, 0, none⟩) m e, wild, wild, wild, .slice (some ⟨0, 0, none⟩) Q.length c, ii (Q.length : Int), ii i, wild, wild, wild, wild, wild, wild, wild, wild, wild, wild, wild]) (fun (s : Int × (List Value) × (List Value) × Nat × Nat) => match s with | (i, L, sq, m, e) => [(pl Q ++ sp, none), (L ++ sq, some 9)]) (fun (s : Int × (List Value) × (List Value) × Nat × Nat) => match s with | (i, L, sq, m, e) => ((Q.length : Int) - i).toNat) (fun (s : Int × (List Value) × (List Value) × Nat × Nat) => match s with | (i, L, sq, m, e) => TxsI Q i L sq m e) (0, [], [], 0, 0) (TxsI.start Q) ?_) (tmR_rfl rfl rfl) ⟨⟨⟨_, rfl, .plain rfl rfl (Row.all h1)⟩⟩, ⟨⟨_, rfl, .plain rfl rfl (fun _ h_ => by cases h_)⟩⟩, trivial⟩ rfl rfl; rintro fuel_ ⟨i, L, sq, m, e⟩ hI IH; replace hI : TxsI Q i L sq m e := hI; conv => whnf)
    | exact next_forget [1] (IH (w64 (i + 1), _, _, _, _) (by exact hI.next (of_decide_eq_true (show decide (i < (Q.length : Int)) = true by assumption)) hn ra_) (by exact hI.mu (of_decide_eq_true (show decide (i < (Q.length : Int)) = true by assumption)) hn)) (tmR_rfl rfl rfl) ⟨⟨⟨_, rfl, .plain rfl rfl (Row.all h1)⟩⟩, ⟨⟨_, rfl, .plain rfl rfl (Row.all ra_)⟩⟩, trivial⟩ rfl rfl
    | exact next_forget [2] (IH (w64 (i + 1), _, _, _, _) (by exact hI.next (of_decide_eq_true (show decide (i < (Q.length : Int)) = true by assumption)) hn ra_) (by exact hI.mu (of_decide_eq_true (show decide (i < (Q.length : Int)) = true by assumption)) hn)) (tmR_rfl rfl rfl) ⟨⟨⟨_, rfl, .plain rfl rfl (Row.all h1)⟩⟩, ⟨⟨_, rfl, .plain rfl rfl (Row.all ra_)⟩⟩, trivial⟩ rfl rfl
    | exact next_forget [3] (IH (w64 (i + 1), _, _, _, _) (by exact hI.next (of_decide_eq_true (show decide (i < (Q.length : Int)) = true by assumption)) hn ra_) (by exact hI.mu (of_decide_eq_true (show decide (i < (Q.length : Int)) = true by assumption)) hn)) (tmR_rfl rfl rfl) ⟨⟨⟨_, rfl, .plain rfl rfl (Row.all h1)⟩⟩, ⟨⟨_, rfl, .plain rfl rfl (Row.all ra_)⟩⟩, trivial⟩ rfl rfl
    | exact next_forget [4] (IH (w64 (i + 1), _, _, _, _) (by exact hI.next (of_decide_eq_true (show decide (i < (Q.length : Int)) = true by assumption)) hn ra_) (by exact hI.mu (of_decide_eq_true (show decide (i < (Q.length : Int)) = true by assumption)) hn)) (tmR_rfl rfl rfl) ⟨⟨⟨_, rfl, .plain rfl rfl (Row.all h1)⟩⟩, ⟨⟨_, rfl, .plain rfl rfl (Row.all ra_)⟩⟩, trivial⟩ rfl rfl
    | (refine br_in hI.lo (of_decide_eq_true (show decide (i < (Q.length : Int)) = true by assumption)) ?_; conv => whnf)
    | (refine force_eq (take_pt (ps := Q) (i := (i).toNat) ?_ ?_) ?_; (focus (simp only [Nat.zero_add]; done)); (focus (have := hI.lo; have := (of_decide_eq_true (show decide (i < (Q.length : Int)) = true by assumption)); omega; done)); conv => whnf)
    | (refine (c_Point_text (goodQ hb hI.lo (of_decide_eq_true (show decide (i < (Q.length : Int)) = true by assumption)))).call ?_; conv => whnf)
    | (refine (c_Point_text (goodQ hb hI.lo (of_decide_eq_true (show decide (i < (Q.length : Int)) = true by assumption)))).quiet ?_; conv => whnf)
    | (show AppK _ _ _ 1 _ _ _ _ _; refine app_lit hI.row rfl rfl rfl (Plain.of rfl) rfl rfl (by decide) (by have := hI.num; have := hI.hi; show (_ + 1) * 16 ≤ _; omega) (by have := hI.num; have := hI.hi; omega) (fun hle_ spa_ ra_ => ?_) (fun hle_ ca_ spa_ ra_ => ?_) <;> conv => whnf)
    | (obtain ⟨hL_, hrow2_⟩ := hI.fin (of_decide_eq_false (show decide (i < (Q.length : Int)) = false by assumption)); subst hL_; refine CallR.call1 (c_Join hrow2_ (by have := hI.num; have := hI.hi; omega) (joinQ_len hb h100)) rfl (plain_allq (Row.all hrow2_)) ⟨_, rfl⟩ ?_; conv => whnf)
    | (exact out_forget [] ⟨congrArg (fun l_ => bStr l_) join_ltxt, rfl⟩ rfl (okB2_spec rfl) ⟨⟨⟨_, rfl, .plain rfl rfl (Row.all h1)⟩⟩, trivial⟩ rfl rfl)
    | (refine StoreK.mk rfl ?_; conv => whnf)
    | exact join_same
    | exact (by assumption : (_ : Bool) = (_ : Bool))
    | (refine br_true (by assumption) ?_; conv => whnf)
    | (refine br_false (by assumption) ?_; conv => whnf)
    | (refine br_not ?_; conv => whnf)
    | (refine br_code ?_; conv => whnf)
    | (with_reducible refine br_and ?_; conv => whnf)
    | (with_reducible refine br_or ?_; conv => whnf)
    | (refine br_eq2 ?_; conv => whnf)
    | (refine draw_auto (by decide +kernel) ?_; conv => whnf)
    | (refine draw_asg (by decide +kernel) ?_; conv => whnf)
    | (refine draw_st (by decide +kernel) ?_; conv => whnf)
    | (refine draw_call (by decide +kernel) ?_; conv => whnf)
    | (refine enter_same (loop_n 12 ?_); conv => whnf)
    | (refine next_same ?_; conv => whnf)
    | (refine mapK_row (by assumption) ?_; conv => whnf)
    | (refine mapK_plain (Plain.of rfl) ?_; conv => whnf)
    | (refine mapK_lit ?_; conv => whnf)
    | (refine br_split (fun _ => ?_) (fun _ => ?_) <;> conv => whnf)
    | exact (rfl : (_ : Value) = _)
    | (simp only [*]; exact (rfl : (_ : Value) = _))
    | (simp [*]; done))

set_option maxHeartbeats 1000000 in
theorem c_ListText {Q : List (Int × Int)} {sp : List Value} {n c : Nat} (h1 : Row (pl Q) sp n c 2) (hn : n ≤ 1048576) (hb : Q.any badP = false) (h100 : n ≤ 100) : CallOK Tryz.prog n_spec_l01ListText [.slice (some ⟨0, 0, none⟩) n c] [(pl Q ++ sp, none)] (fun v m_ => v = bStr (ltxt Q) ∧ m_ = [(pl Q ++ sp, none)]) := by
  obtain rfl := row_pl h1; refine callOK_ofF good fn_spec_l01ListText ?_
  conv => whnf
  all_goals (repeat' first
    | (refine enter_forget [] (loop_rec (fun (s : Int × ByteArray) => match s with | (i, u) => [.slice (some ⟨0, 0, none⟩) Q.length c, wild, wild, .string u, ii i, wild, wild, wild, wild, wild, wild, wild, wild, wild, wild, wild, wild, wild, wild, wild, wild, wild, wild]) (fun (s : Int × ByteArray) => match s with | (i, u) => [(pl Q ++ sp, none)]) (fun (s : Int × ByteArray) => match s with | (i, u) => ((Q.length : Int) - i).toNat) (fun (s : Int × ByteArray) => match s with | (i, u) => LtxI Q i u) (0, ⟨#[]⟩) (LtxI.start Q) ?_) (tmR_rfl rfl rfl) ⟨⟨⟨_, rfl, .plain rfl rfl (Row.all h1)⟩⟩, trivial⟩ rfl rfl; rintro fuel_ ⟨i, u⟩ hI IH; replace hI : LtxI Q i u := hI; conv => whnf)
    | exact next_forget [] (IH (w64 (i + 1), _) (by exact hI.next1 (of_decide_eq_true (show decide (i < (Q.length : Int)) = true by assumption)) hn (by assumption)) (by exact hI.mu (of_decide_eq_true (show decide (i < (Q.length : Int)) = true by assumption)) hn)) (tmR_rfl rfl rfl) ⟨⟨⟨_, rfl, .plain rfl rfl (Row.all h1)⟩⟩, trivial⟩ rfl rfl
    | exact next_forget [] (IH (w64 (i + 1), _) (by exact hI.next0 (of_decide_eq_true (show decide (i < (Q.length : Int)) = true by assumption)) hn (by assumption)) (by exact hI.mu (of_decide_eq_true (show decide (i < (Q.length : Int)) = true by assumption)) hn)) (tmR_rfl rfl rfl) ⟨⟨⟨_, rfl, .plain rfl rfl (Row.all h1)⟩⟩, trivial⟩ rfl rfl
    | (refine br_in hI.lo (of_decide_eq_true (show decide (i < (Q.length : Int)) = true by assumption)) ?_; conv => whnf)
    | (refine force_eq (take_pt (ps := Q) (i := (i).toNat) ?_ ?_) ?_; (focus (simp only [Nat.zero_add]; done)); (focus (have := hI.lo; have := (of_decide_eq_true (show decide (i < (Q.length : Int)) = true by assumption)); omega; done)); conv => whnf)
    | (refine (c_spec_l01Text (goodQ hb hI.lo (of_decide_eq_true (show decide (i < (Q.length : Int)) = true by assumption)))).call ?_; conv => whnf)
    | (refine (c_spec_l01Text (goodQ hb hI.lo (of_decide_eq_true (show decide (i < (Q.length : Int)) = true by assumption)))).quiet ?_; conv => whnf)
    | (refine AddS.mk (by have := hI.size hb; have := ptxt_sizeQ hb hI.lo (of_decide_eq_true (show decide (i < (Q.length : Int)) = true by assumption)); have e59_ : (⟨#[59]⟩ : ByteArray).size = 1 := rfl; (try simp only [ByteArray.size_append]); omega) ?_; conv => whnf)
    | (exact out_forget [] ⟨congrArg Value.string (hI.fin (of_decide_eq_false (show decide (i < (Q.length : Int)) = false by assumption))), rfl⟩ rfl (okB2_spec rfl) ⟨⟨⟨_, rfl, .plain rfl rfl (Row.all h1)⟩⟩, trivial⟩ rfl rfl)
    | (refine StoreK.mk rfl ?_; conv => whnf)
    | exact join_same
    | exact (by assumption : (_ : Bool) = (_ : Bool))
    | (refine br_true (by assumption) ?_; conv => whnf)
    | (refine br_false (by assumption) ?_; conv => whnf)
    | (refine br_not ?_; conv => whnf)
    | (refine br_code ?_; conv => whnf)
    | (with_reducible refine br_and ?_; conv => whnf)
    | (with_reducible refine br_or ?_; conv => whnf)
    | (refine br_eq2 ?_; conv => whnf)
    | (refine draw_auto (by decide +kernel) ?_; conv => whnf)
    | (refine draw_asg (by decide +kernel) ?_; conv => whnf)
    | (refine draw_st (by decide +kernel) ?_; conv => whnf)
    | (refine draw_call (by decide +kernel) ?_; conv => whnf)
    | (refine enter_same (loop_n 12 ?_); conv => whnf)
    | (refine next_same ?_; conv => whnf)
    | (refine mapK_row (by assumption) ?_; conv => whnf)
    | (refine mapK_plain (Plain.of rfl) ?_; conv => whnf)
    | (refine mapK_lit ?_; conv => whnf)
    | (refine br_split (fun _ => ?_) (fun _ => ?_) <;> conv => whnf)
    | exact (rfl : (_ : Value) = _)
    | (simp only [*]; exact (rfl : (_ : Value) = _))
    | (simp [*]; done))

end Go.Proofs.YtlkbfpklhncfbaaGreatDoor
end
