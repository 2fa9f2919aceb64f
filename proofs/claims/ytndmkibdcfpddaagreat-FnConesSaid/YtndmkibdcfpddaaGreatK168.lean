/-
  Contracts of functions of the program (printed by a program of this work; Lean checks each).
  Conditions: as each contract states.
-/
import Derived.Test.YtndmkibdcfpddaaGreatKP1
import Derived.Test.YtndmkibdcfpddaaGreatKP2
import Derived.Test.YtndmkibdcfpddaaGreatKP3
import Derived.Test.YtndmkibdcfpddaaGreatKP4
import Derived.Test.YtndmkibdcfpddaaGreatKP5
namespace Go.Proofs.YtndmkibdcfpddaaGreat
open Go.Ev Go.RowKit
set_option maxRecDepth 100000
set_option linter.unusedVariables false
set_option linter.unusedSimpArgs false

attribute [local irreducible] isConeF isSpF sizeF volF hilO boxO co0 co1 co2 crF lnF plusF

theorem rn_cn_L4nn {zs : List Int} {off n c : Nat} {e1 : Int} {e2 : Int} (hz : n ≤ zs.length) (hb : ∀ z ∈ zs, IsByte z) (hn : n ≤ 4096) (he1 : ¬ e1 = 0) (he2 : ¬ e2 = 0) : RunsOK Tryz.prog Tryz.f3 1 (OutK 1 (fun v m_ => v = bb true ∧ m_ = [(away off (bl zs), none)])) (tlC 8 (tlC 11 (tlC 3 (tlC 5 (code3))))) (cnW (.slice (some ⟨0, off, none⟩) n c) wild (.slice none 0 0) (ii e1) wild wild (ii e2) wild wild wild wild wild wild) [(away off (bl zs), none)] :=
  runs_ev good (cn_L4nn hz hb hn he1 he2)

theorem rn_cn_L4no {zs : List Int} {off n c : Nat} {e1 : Int} {l : Cn} {n2 : Nat} {c2 : Nat} {s2 : List Value} (hz : n ≤ zs.length) (hb : ∀ z ∈ zs, IsByte z) (hn : n ≤ 4096) (he1 : ¬ e1 = 0) (hl : l.Ok) (hr2 : Row (sl (hilO l)) s2 n2 c2 3) : RunsOK Tryz.prog Tryz.f3 1 (OutK 1 (fun v m_ => v = bb true ∧ m_ = [(away off (bl zs), none)])) (tlC 8 (tlC 11 (tlC 3 (tlC 5 (code3))))) (cnW (.slice (some ⟨0, off, none⟩) n c) wild (.slice none 0 0) (ii e1) (.pointer (some ⟨1, 0, none⟩)) (.slice (some ⟨2, 0, none⟩) n2 c2) (ii 0) wild wild wild wild wild wild) [(away off (bl zs), none), ([ii l.a, ii l.b, ii l.c, ii l.d, ii l.e, ii l.f, ii l.g, ii l.h, ii l.i], some t_impl_Cone), (sl (hilO l) ++ s2, some t_impl_Spot)] :=
  runs_ev good (cn_L4no hz hb hn he1 hl hr2)

theorem rn_cn_L4on {zs : List Int} {off n c : Nat} {k : Cn} {n1 : Nat} {c1 : Nat} {s1 : List Value} {e2 : Int} (hz : n ≤ zs.length) (hb : ∀ z ∈ zs, IsByte z) (hn : n ≤ 4096) (hk : k.Ok) (hr1 : Row (sl (boxO k)) s1 n1 c1 3) (he2 : ¬ e2 = 0) : RunsOK Tryz.prog Tryz.f3 1 (OutK 1 (fun v m_ => v = bb true ∧ m_ = [(away off (bl zs), none)])) (tlC 8 (tlC 11 (tlC 3 (tlC 5 (code3))))) (cnW (.slice (some ⟨0, off, none⟩) n c) (.pointer (some ⟨1, 0, none⟩)) (.slice (some ⟨2, 0, none⟩) n1 c1) (ii 0) wild wild (ii e2) wild wild wild wild wild wild) [(away off (bl zs), none), ([ii k.a, ii k.b, ii k.c, ii k.d, ii k.e, ii k.f, ii k.g, ii k.h, ii k.i], some t_impl_Cone), (sl (boxO k) ++ s1, some t_impl_Spot)] :=
  runs_ev good (cn_L4on hz hb hn hk hr1 he2)

theorem rn_cn_L4oo {zs : List Int} {off n c : Nat} {k : Cn} {n1 : Nat} {c1 : Nat} {s1 : List Value} {l : Cn} {n2 : Nat} {c2 : Nat} {s2 : List Value} (hz : n ≤ zs.length) (hb : ∀ z ∈ zs, IsByte z) (hn : n ≤ 4096) (hk : k.Ok) (hr1 : Row (sl (boxO k)) s1 n1 c1 3) (hl : l.Ok) (hr2 : Row (sl (hilO l)) s2 n2 c2 3) : RunsOK Tryz.prog Tryz.f3 1 (OutK 1 (fun v m_ => v = bb true ∧ m_ = [(away off (bl zs), none)])) (tlC 8 (tlC 11 (tlC 3 (tlC 5 (code3))))) (cnW (.slice (some ⟨0, off, none⟩) n c) (.pointer (some ⟨1, 0, none⟩)) (.slice (some ⟨2, 0, none⟩) n1 c1) (ii 0) (.pointer (some ⟨3, 0, none⟩)) (.slice (some ⟨4, 0, none⟩) n2 c2) (ii 0) wild wild wild wild wild wild) [(away off (bl zs), none), ([ii k.a, ii k.b, ii k.c, ii k.d, ii k.e, ii k.f, ii k.g, ii k.h, ii k.i], some t_impl_Cone), (sl (boxO k) ++ s1, some t_impl_Spot), ([ii l.a, ii l.b, ii l.c, ii l.d, ii l.e, ii l.f, ii l.g, ii l.h, ii l.i], some t_impl_Cone), (sl (hilO l) ++ s2, some t_impl_Spot)] :=
  runs_ev good (cn_L4oo hz hb hn hk hr1 hl hr2)

theorem rn_cn_L3nnn {zs : List Int} {off n c : Nat} {e1 : Int} {e2 : Int} (hz : n ≤ zs.length) (hb : ∀ z ∈ zs, IsByte z) (hn : n ≤ 4096) (he1 : ¬ e1 = 0) (he2 : ¬ e2 = 0) : RunsOK Tryz.prog Tryz.f3 1 (OutK 1 (fun v m_ => v = bb true ∧ m_ = [(away off (bl zs), none)])) (tlC 11 (tlC 3 (tlC 5 (code3)))) (cnW (.slice (some ⟨0, off, none⟩) n c) wild (.slice none 0 0) (ii e1) wild wild (ii e2) wild wild wild (ii 1) wild wild) [(away off (bl zs), none)] :=
  runs_cut good 8 (cn_L3nnn hz hb hn he1 he2) (fun tm mem h => by obtain ⟨rfl, rfl⟩ := h; exact rn_cn_L4nn hz hb hn he1 he2)

theorem rn_cn_L3nno {zs : List Int} {off n c : Nat} {e1 : Int} {e2 : Int} {t0 : Int} {t1 : Int} {t2 : Int} {t3 : Int} {t4 : Int} {t5 : Int} {t6 : Int} {t7 : Int} {t8 : Int} {t9 : Int} {t10 : Int} {t11 : Int} (hz : n ≤ zs.length) (hb : ∀ z ∈ zs, IsByte z) (hn : n ≤ 4096) (he1 : ¬ e1 = 0) (he2 : ¬ e2 = 0) (hE1 : isConeF t0 t1 t2 t3 t4 t5 t6 t7 t8 = true) (hE2 : isSpF t9 t10 t11 = true) : RunsOK Tryz.prog Tryz.f3 1 (OutK 1 (fun v m_ => v = bb true ∧ m_ = [(away off (bl zs), none)])) (tlC 11 (tlC 3 (tlC 5 (code3)))) (cnW (.slice (some ⟨0, off, none⟩) n c) wild (.slice none 0 0) (ii e1) wild wild (ii e2) (.pointer (some ⟨1, 0, none⟩)) (.pointer (some ⟨2, 0, none⟩)) (.slice (some ⟨3, 0, none⟩) 3 3) (ii 0) (bb ((isConeF t0 t1 t2 t3 t4 t5 t6 t7 t8 && isSpF t9 t10 t11) && (decide (co0 t0 t1 t2 t3 t4 t5 t6 t7 t8 t9 t10 t11 ≥ 0) && decide (co1 t0 t1 t2 t3 t4 t5 t6 t7 t8 t9 t10 t11 ≥ 0) && decide (co2 t0 t1 t2 t3 t4 t5 t6 t7 t8 t9 t10 t11 ≥ 0)))) wild) [(away off (bl zs), none), ([ii t0, ii t1, ii t2, ii t3, ii t4, ii t5, ii t6, ii t7, ii t8], some t_impl_Cone), ([ii t9, ii t10, ii t11], some t_impl_Spot), (il [co0 t0 t1 t2 t3 t4 t5 t6 t7 t8 t9 t10 t11, co1 t0 t1 t2 t3 t4 t5 t6 t7 t8 t9 t10 t11, co2 t0 t1 t2 t3 t4 t5 t6 t7 t8 t9 t10 t11] ++ [], some t_impl_Spot)] :=
  runs_cut good 8 (cn_L3nno hz hb hn he1 he2 hE1 hE2) (fun tm mem h => by obtain ⟨rfl, rfl⟩ := h; exact rn_cn_L4nn hz hb hn he1 he2)

theorem rn_cn_L3non {zs : List Int} {off n c : Nat} {e1 : Int} {l : Cn} {n2 : Nat} {c2 : Nat} {s2 : List Value} (hz : n ≤ zs.length) (hb : ∀ z ∈ zs, IsByte z) (hn : n ≤ 4096) (he1 : ¬ e1 = 0) (hl : l.Ok) (hr2 : Row (sl (hilO l)) s2 n2 c2 3) : RunsOK Tryz.prog Tryz.f3 1 (OutK 1 (fun v m_ => v = bb true ∧ m_ = [(away off (bl zs), none)])) (tlC 11 (tlC 3 (tlC 5 (code3)))) (cnW (.slice (some ⟨0, off, none⟩) n c) wild (.slice none 0 0) (ii e1) (.pointer (some ⟨1, 0, none⟩)) (.slice (some ⟨2, 0, none⟩) n2 c2) (ii 0) wild wild wild (ii 1) wild wild) [(away off (bl zs), none), ([ii l.a, ii l.b, ii l.c, ii l.d, ii l.e, ii l.f, ii l.g, ii l.h, ii l.i], some t_impl_Cone), (sl (hilO l) ++ s2, some t_impl_Spot)] :=
  runs_cut good 8 (cn_L3non hz hb hn he1 hl hr2) (fun tm mem h => by obtain ⟨rfl, rfl⟩ := h; exact rn_cn_L4no hz hb hn he1 hl hr2)

theorem rn_cn_L3noo {zs : List Int} {off n c : Nat} {e1 : Int} {l : Cn} {n2 : Nat} {c2 : Nat} {s2 : List Value} {t0 : Int} {t1 : Int} {t2 : Int} {t3 : Int} {t4 : Int} {t5 : Int} {t6 : Int} {t7 : Int} {t8 : Int} {t9 : Int} {t10 : Int} {t11 : Int} (hz : n ≤ zs.length) (hb : ∀ z ∈ zs, IsByte z) (hn : n ≤ 4096) (he1 : ¬ e1 = 0) (hl : l.Ok) (hr2 : Row (sl (hilO l)) s2 n2 c2 3) (hE1 : isConeF t0 t1 t2 t3 t4 t5 t6 t7 t8 = true) (hE2 : isSpF t9 t10 t11 = true) : RunsOK Tryz.prog Tryz.f3 1 (OutK 1 (fun v m_ => v = bb true ∧ m_ = [(away off (bl zs), none)])) (tlC 11 (tlC 3 (tlC 5 (code3)))) (cnW (.slice (some ⟨0, off, none⟩) n c) wild (.slice none 0 0) (ii e1) (.pointer (some ⟨1, 0, none⟩)) (.slice (some ⟨2, 0, none⟩) n2 c2) (ii 0) (.pointer (some ⟨3, 0, none⟩)) (.pointer (some ⟨4, 0, none⟩)) (.slice (some ⟨5, 0, none⟩) 3 3) (ii 0) (bb ((isConeF t0 t1 t2 t3 t4 t5 t6 t7 t8 && isSpF t9 t10 t11) && (decide (co0 t0 t1 t2 t3 t4 t5 t6 t7 t8 t9 t10 t11 ≥ 0) && decide (co1 t0 t1 t2 t3 t4 t5 t6 t7 t8 t9 t10 t11 ≥ 0) && decide (co2 t0 t1 t2 t3 t4 t5 t6 t7 t8 t9 t10 t11 ≥ 0)))) wild) [(away off (bl zs), none), ([ii l.a, ii l.b, ii l.c, ii l.d, ii l.e, ii l.f, ii l.g, ii l.h, ii l.i], some t_impl_Cone), (sl (hilO l) ++ s2, some t_impl_Spot), ([ii t0, ii t1, ii t2, ii t3, ii t4, ii t5, ii t6, ii t7, ii t8], some t_impl_Cone), ([ii t9, ii t10, ii t11], some t_impl_Spot), (il [co0 t0 t1 t2 t3 t4 t5 t6 t7 t8 t9 t10 t11, co1 t0 t1 t2 t3 t4 t5 t6 t7 t8 t9 t10 t11, co2 t0 t1 t2 t3 t4 t5 t6 t7 t8 t9 t10 t11] ++ [], some t_impl_Spot)] :=
  runs_cut good 8 (cn_L3noo hz hb hn he1 hl hr2 hE1 hE2) (fun tm mem h => by obtain ⟨rfl, rfl⟩ := h; exact rn_cn_L4no hz hb hn he1 hl hr2)

theorem rn_cn_L3onn {zs : List Int} {off n c : Nat} {k : Cn} {n1 : Nat} {c1 : Nat} {s1 : List Value} {e2 : Int} (hz : n ≤ zs.length) (hb : ∀ z ∈ zs, IsByte z) (hn : n ≤ 4096) (hk : k.Ok) (hr1 : Row (sl (boxO k)) s1 n1 c1 3) (he2 : ¬ e2 = 0) : RunsOK Tryz.prog Tryz.f3 1 (OutK 1 (fun v m_ => v = bb true ∧ m_ = [(away off (bl zs), none)])) (tlC 11 (tlC 3 (tlC 5 (code3)))) (cnW (.slice (some ⟨0, off, none⟩) n c) (.pointer (some ⟨1, 0, none⟩)) (.slice (some ⟨2, 0, none⟩) n1 c1) (ii 0) wild wild (ii e2) wild wild wild (ii 1) wild wild) [(away off (bl zs), none), ([ii k.a, ii k.b, ii k.c, ii k.d, ii k.e, ii k.f, ii k.g, ii k.h, ii k.i], some t_impl_Cone), (sl (boxO k) ++ s1, some t_impl_Spot)] :=
  runs_cut good 8 (cn_L3onn hz hb hn hk hr1 he2) (fun tm mem h => by obtain ⟨rfl, rfl⟩ := h; exact rn_cn_L4on hz hb hn hk hr1 he2)

theorem rn_cn_L3ono {zs : List Int} {off n c : Nat} {k : Cn} {n1 : Nat} {c1 : Nat} {s1 : List Value} {e2 : Int} {t0 : Int} {t1 : Int} {t2 : Int} {t3 : Int} {t4 : Int} {t5 : Int} {t6 : Int} {t7 : Int} {t8 : Int} {t9 : Int} {t10 : Int} {t11 : Int} (hz : n ≤ zs.length) (hb : ∀ z ∈ zs, IsByte z) (hn : n ≤ 4096) (hk : k.Ok) (hr1 : Row (sl (boxO k)) s1 n1 c1 3) (he2 : ¬ e2 = 0) (hE1 : isConeF t0 t1 t2 t3 t4 t5 t6 t7 t8 = true) (hE2 : isSpF t9 t10 t11 = true) : RunsOK Tryz.prog Tryz.f3 1 (OutK 1 (fun v m_ => v = bb true ∧ m_ = [(away off (bl zs), none)])) (tlC 11 (tlC 3 (tlC 5 (code3)))) (cnW (.slice (some ⟨0, off, none⟩) n c) (.pointer (some ⟨1, 0, none⟩)) (.slice (some ⟨2, 0, none⟩) n1 c1) (ii 0) wild wild (ii e2) (.pointer (some ⟨3, 0, none⟩)) (.pointer (some ⟨4, 0, none⟩)) (.slice (some ⟨5, 0, none⟩) 3 3) (ii 0) (bb ((isConeF t0 t1 t2 t3 t4 t5 t6 t7 t8 && isSpF t9 t10 t11) && (decide (co0 t0 t1 t2 t3 t4 t5 t6 t7 t8 t9 t10 t11 ≥ 0) && decide (co1 t0 t1 t2 t3 t4 t5 t6 t7 t8 t9 t10 t11 ≥ 0) && decide (co2 t0 t1 t2 t3 t4 t5 t6 t7 t8 t9 t10 t11 ≥ 0)))) wild) [(away off (bl zs), none), ([ii k.a, ii k.b, ii k.c, ii k.d, ii k.e, ii k.f, ii k.g, ii k.h, ii k.i], some t_impl_Cone), (sl (boxO k) ++ s1, some t_impl_Spot), ([ii t0, ii t1, ii t2, ii t3, ii t4, ii t5, ii t6, ii t7, ii t8], some t_impl_Cone), ([ii t9, ii t10, ii t11], some t_impl_Spot), (il [co0 t0 t1 t2 t3 t4 t5 t6 t7 t8 t9 t10 t11, co1 t0 t1 t2 t3 t4 t5 t6 t7 t8 t9 t10 t11, co2 t0 t1 t2 t3 t4 t5 t6 t7 t8 t9 t10 t11] ++ [], some t_impl_Spot)] :=
  runs_cut good 8 (cn_L3ono hz hb hn hk hr1 he2 hE1 hE2) (fun tm mem h => by obtain ⟨rfl, rfl⟩ := h; exact rn_cn_L4on hz hb hn hk hr1 he2)

theorem rn_cn_L3oon {zs : List Int} {off n c : Nat} {k : Cn} {n1 : Nat} {c1 : Nat} {s1 : List Value} {l : Cn} {n2 : Nat} {c2 : Nat} {s2 : List Value} (hz : n ≤ zs.length) (hb : ∀ z ∈ zs, IsByte z) (hn : n ≤ 4096) (hk : k.Ok) (hr1 : Row (sl (boxO k)) s1 n1 c1 3) (hl : l.Ok) (hr2 : Row (sl (hilO l)) s2 n2 c2 3) : RunsOK Tryz.prog Tryz.f3 1 (OutK 1 (fun v m_ => v = bb true ∧ m_ = [(away off (bl zs), none)])) (tlC 11 (tlC 3 (tlC 5 (code3)))) (cnW (.slice (some ⟨0, off, none⟩) n c) (.pointer (some ⟨1, 0, none⟩)) (.slice (some ⟨2, 0, none⟩) n1 c1) (ii 0) (.pointer (some ⟨3, 0, none⟩)) (.slice (some ⟨4, 0, none⟩) n2 c2) (ii 0) wild wild wild (ii 1) wild wild) [(away off (bl zs), none), ([ii k.a, ii k.b, ii k.c, ii k.d, ii k.e, ii k.f, ii k.g, ii k.h, ii k.i], some t_impl_Cone), (sl (boxO k) ++ s1, some t_impl_Spot), ([ii l.a, ii l.b, ii l.c, ii l.d, ii l.e, ii l.f, ii l.g, ii l.h, ii l.i], some t_impl_Cone), (sl (hilO l) ++ s2, some t_impl_Spot)] :=
  runs_cut good 8 (cn_L3oon hz hb hn hk hr1 hl hr2) (fun tm mem h => by obtain ⟨rfl, rfl⟩ := h; exact rn_cn_L4oo hz hb hn hk hr1 hl hr2)

theorem rn_cn_L3ooo {zs : List Int} {off n c : Nat} {k : Cn} {n1 : Nat} {c1 : Nat} {s1 : List Value} {l : Cn} {n2 : Nat} {c2 : Nat} {s2 : List Value} {t0 : Int} {t1 : Int} {t2 : Int} {t3 : Int} {t4 : Int} {t5 : Int} {t6 : Int} {t7 : Int} {t8 : Int} {t9 : Int} {t10 : Int} {t11 : Int} (hz : n ≤ zs.length) (hb : ∀ z ∈ zs, IsByte z) (hn : n ≤ 4096) (hk : k.Ok) (hr1 : Row (sl (boxO k)) s1 n1 c1 3) (hl : l.Ok) (hr2 : Row (sl (hilO l)) s2 n2 c2 3) (hE1 : isConeF t0 t1 t2 t3 t4 t5 t6 t7 t8 = true) (hE2 : isSpF t9 t10 t11 = true) : RunsOK Tryz.prog Tryz.f3 1 (OutK 1 (fun v m_ => v = bb true ∧ m_ = [(away off (bl zs), none)])) (tlC 11 (tlC 3 (tlC 5 (code3)))) (cnW (.slice (some ⟨0, off, none⟩) n c) (.pointer (some ⟨1, 0, none⟩)) (.slice (some ⟨2, 0, none⟩) n1 c1) (ii 0) (.pointer (some ⟨3, 0, none⟩)) (.slice (some ⟨4, 0, none⟩) n2 c2) (ii 0) (.pointer (some ⟨5, 0, none⟩)) (.pointer (some ⟨6, 0, none⟩)) (.slice (some ⟨7, 0, none⟩) 3 3) (ii 0) (bb ((isConeF t0 t1 t2 t3 t4 t5 t6 t7 t8 && isSpF t9 t10 t11) && (decide (co0 t0 t1 t2 t3 t4 t5 t6 t7 t8 t9 t10 t11 ≥ 0) && decide (co1 t0 t1 t2 t3 t4 t5 t6 t7 t8 t9 t10 t11 ≥ 0) && decide (co2 t0 t1 t2 t3 t4 t5 t6 t7 t8 t9 t10 t11 ≥ 0)))) wild) [(away off (bl zs), none), ([ii k.a, ii k.b, ii k.c, ii k.d, ii k.e, ii k.f, ii k.g, ii k.h, ii k.i], some t_impl_Cone), (sl (boxO k) ++ s1, some t_impl_Spot), ([ii l.a, ii l.b, ii l.c, ii l.d, ii l.e, ii l.f, ii l.g, ii l.h, ii l.i], some t_impl_Cone), (sl (hilO l) ++ s2, some t_impl_Spot), ([ii t0, ii t1, ii t2, ii t3, ii t4, ii t5, ii t6, ii t7, ii t8], some t_impl_Cone), ([ii t9, ii t10, ii t11], some t_impl_Spot), (il [co0 t0 t1 t2 t3 t4 t5 t6 t7 t8 t9 t10 t11, co1 t0 t1 t2 t3 t4 t5 t6 t7 t8 t9 t10 t11, co2 t0 t1 t2 t3 t4 t5 t6 t7 t8 t9 t10 t11] ++ [], some t_impl_Spot)] :=
  runs_cut good 8 (cn_L3ooo hz hb hn hk hr1 hl hr2 hE1 hE2) (fun tm mem h => by obtain ⟨rfl, rfl⟩ := h; exact rn_cn_L4oo hz hb hn hk hr1 hl hr2)

theorem rn_cn_L2nn {zs : List Int} {off n c : Nat} {e1 : Int} {e2 : Int} (hz : n ≤ zs.length) (hb : ∀ z ∈ zs, IsByte z) (hn : n ≤ 4096) (he1 : ¬ e1 = 0) (he2 : ¬ e2 = 0) : RunsOK Tryz.prog Tryz.f3 1 (OutK 1 (fun v m_ => v = bb true ∧ m_ = [(away off (bl zs), none)])) (tlC 3 (tlC 5 (code3))) (cnW (.slice (some ⟨0, off, none⟩) n c) wild (.slice none 0 0) (ii e1) wild wild (ii e2) wild wild wild wild wild wild) [(away off (bl zs), none)] :=
  runs_cut good 11 (cn_L2nn hz hb hn he1 he2) (fun tm mem h => by
    rcases h with ⟨rfl, rfl⟩ | ⟨t0, t1, t2, t3, t4, t5, t6, t7, t8, t9, t10, t11, hE1, hE2, rfl, rfl⟩
    · exact rn_cn_L3nnn hz hb hn he1 he2
    · exact rn_cn_L3nno hz hb hn he1 he2 hE1 hE2)

theorem rn_cn_L2no {zs : List Int} {off n c : Nat} {e1 : Int} {l : Cn} {n2 : Nat} {c2 : Nat} {s2 : List Value} (hz : n ≤ zs.length) (hb : ∀ z ∈ zs, IsByte z) (hn : n ≤ 4096) (he1 : ¬ e1 = 0) (hl : l.Ok) (hr2 : Row (sl (hilO l)) s2 n2 c2 3) : RunsOK Tryz.prog Tryz.f3 1 (OutK 1 (fun v m_ => v = bb true ∧ m_ = [(away off (bl zs), none)])) (tlC 3 (tlC 5 (code3))) (cnW (.slice (some ⟨0, off, none⟩) n c) wild (.slice none 0 0) (ii e1) (.pointer (some ⟨1, 0, none⟩)) (.slice (some ⟨2, 0, none⟩) n2 c2) (ii 0) wild wild wild wild wild wild) [(away off (bl zs), none), ([ii l.a, ii l.b, ii l.c, ii l.d, ii l.e, ii l.f, ii l.g, ii l.h, ii l.i], some t_impl_Cone), (sl (hilO l) ++ s2, some t_impl_Spot)] :=
  runs_cut good 11 (cn_L2no hz hb hn he1 hl hr2) (fun tm mem h => by
    rcases h with ⟨rfl, rfl⟩ | ⟨t0, t1, t2, t3, t4, t5, t6, t7, t8, t9, t10, t11, hE1, hE2, rfl, rfl⟩
    · exact rn_cn_L3non hz hb hn he1 hl hr2
    · exact rn_cn_L3noo hz hb hn he1 hl hr2 hE1 hE2)

theorem rn_cn_L2on {zs : List Int} {off n c : Nat} {k : Cn} {n1 : Nat} {c1 : Nat} {s1 : List Value} {e2 : Int} (hz : n ≤ zs.length) (hb : ∀ z ∈ zs, IsByte z) (hn : n ≤ 4096) (hk : k.Ok) (hr1 : Row (sl (boxO k)) s1 n1 c1 3) (he2 : ¬ e2 = 0) : RunsOK Tryz.prog Tryz.f3 1 (OutK 1 (fun v m_ => v = bb true ∧ m_ = [(away off (bl zs), none)])) (tlC 3 (tlC 5 (code3))) (cnW (.slice (some ⟨0, off, none⟩) n c) (.pointer (some ⟨1, 0, none⟩)) (.slice (some ⟨2, 0, none⟩) n1 c1) (ii 0) wild wild (ii e2) wild wild wild wild wild wild) [(away off (bl zs), none), ([ii k.a, ii k.b, ii k.c, ii k.d, ii k.e, ii k.f, ii k.g, ii k.h, ii k.i], some t_impl_Cone), (sl (boxO k) ++ s1, some t_impl_Spot)] :=
  runs_cut good 11 (cn_L2on hz hb hn hk hr1 he2) (fun tm mem h => by
    rcases h with ⟨rfl, rfl⟩ | ⟨t0, t1, t2, t3, t4, t5, t6, t7, t8, t9, t10, t11, hE1, hE2, rfl, rfl⟩
    · exact rn_cn_L3onn hz hb hn hk hr1 he2
    · exact rn_cn_L3ono hz hb hn hk hr1 he2 hE1 hE2)

theorem rn_cn_L2oo {zs : List Int} {off n c : Nat} {k : Cn} {n1 : Nat} {c1 : Nat} {s1 : List Value} {l : Cn} {n2 : Nat} {c2 : Nat} {s2 : List Value} (hz : n ≤ zs.length) (hb : ∀ z ∈ zs, IsByte z) (hn : n ≤ 4096) (hk : k.Ok) (hr1 : Row (sl (boxO k)) s1 n1 c1 3) (hl : l.Ok) (hr2 : Row (sl (hilO l)) s2 n2 c2 3) : RunsOK Tryz.prog Tryz.f3 1 (OutK 1 (fun v m_ => v = bb true ∧ m_ = [(away off (bl zs), none)])) (tlC 3 (tlC 5 (code3))) (cnW (.slice (some ⟨0, off, none⟩) n c) (.pointer (some ⟨1, 0, none⟩)) (.slice (some ⟨2, 0, none⟩) n1 c1) (ii 0) (.pointer (some ⟨3, 0, none⟩)) (.slice (some ⟨4, 0, none⟩) n2 c2) (ii 0) wild wild wild wild wild wild) [(away off (bl zs), none), ([ii k.a, ii k.b, ii k.c, ii k.d, ii k.e, ii k.f, ii k.g, ii k.h, ii k.i], some t_impl_Cone), (sl (boxO k) ++ s1, some t_impl_Spot), ([ii l.a, ii l.b, ii l.c, ii l.d, ii l.e, ii l.f, ii l.g, ii l.h, ii l.i], some t_impl_Cone), (sl (hilO l) ++ s2, some t_impl_Spot)] :=
  runs_cut good 11 (cn_L2oo hz hb hn hk hr1 hl hr2) (fun tm mem h => by
    rcases h with ⟨rfl, rfl⟩ | ⟨t0, t1, t2, t3, t4, t5, t6, t7, t8, t9, t10, t11, hE1, hE2, rfl, rfl⟩
    · exact rn_cn_L3oon hz hb hn hk hr1 hl hr2
    · exact rn_cn_L3ooo hz hb hn hk hr1 hl hr2 hE1 hE2)

theorem rn_cn_L1n {zs : List Int} {off n c : Nat} {e1 : Int} (hz : n ≤ zs.length) (hb : ∀ z ∈ zs, IsByte z) (hn : n ≤ 4096) (he1 : ¬ e1 = 0) : RunsOK Tryz.prog Tryz.f3 1 (OutK 1 (fun v m_ => v = bb true ∧ m_ = [(away off (bl zs), none)])) (tlC 5 (code3)) (cnW (.slice (some ⟨0, off, none⟩) n c) wild (.slice none 0 0) (ii e1) wild wild wild wild wild wild wild wild wild) [(away off (bl zs), none)] :=
  runs_cut good 3 (cn_L1n hz hb hn he1) (fun tm mem h => by
    rcases h with ⟨e2, he2, rfl, rfl⟩ | ⟨l, n2, c2, s2, hl, hr2, rfl, rfl⟩
    · exact rn_cn_L2nn hz hb hn he1 he2
    · exact rn_cn_L2no hz hb hn he1 hl hr2)

theorem rn_cn_L1o {zs : List Int} {off n c : Nat} {k : Cn} {n1 : Nat} {c1 : Nat} {s1 : List Value} (hz : n ≤ zs.length) (hb : ∀ z ∈ zs, IsByte z) (hn : n ≤ 4096) (hk : k.Ok) (hr1 : Row (sl (boxO k)) s1 n1 c1 3) : RunsOK Tryz.prog Tryz.f3 1 (OutK 1 (fun v m_ => v = bb true ∧ m_ = [(away off (bl zs), none)])) (tlC 5 (code3)) (cnW (.slice (some ⟨0, off, none⟩) n c) (.pointer (some ⟨1, 0, none⟩)) (.slice (some ⟨2, 0, none⟩) n1 c1) (ii 0) wild wild wild wild wild wild wild wild wild) [(away off (bl zs), none), ([ii k.a, ii k.b, ii k.c, ii k.d, ii k.e, ii k.f, ii k.g, ii k.h, ii k.i], some t_impl_Cone), (sl (boxO k) ++ s1, some t_impl_Spot)] :=
  runs_cut good 3 (cn_L1o hz hb hn hk hr1) (fun tm mem h => by
    rcases h with ⟨e2, he2, rfl, rfl⟩ | ⟨l, n2, c2, s2, hl, hr2, rfl, rfl⟩
    · exact rn_cn_L2on hz hb hn hk hr1 he2
    · exact rn_cn_L2oo hz hb hn hk hr1 hl hr2)

theorem rn_cn_L0 {zs : List Int} {off n c : Nat}  (hz : n ≤ zs.length) (hb : ∀ z ∈ zs, IsByte z) (hn : n ≤ 4096)  : RunsOK Tryz.prog Tryz.f3 1 (OutK 1 (fun v m_ => v = bb true ∧ m_ = [(away off (bl zs), none)])) (code3) ([.slice (some ⟨0, off, none⟩) n c] ++ undefs 421) [(away off (bl zs), none)] :=
  runs_cut good 5 (cn_L0 hz hb hn) (fun tm mem h => by
    rcases h with ⟨e1, he1, rfl, rfl⟩ | ⟨k, n1, c1, s1, hk, hr1, rfl, rfl⟩
    · exact rn_cn_L1n hz hb hn he1
    · exact rn_cn_L1o hz hb hn hk hr1)

theorem c_fn_FnCones_L {zs : List Int} {off n c : Nat} (hz : n ≤ zs.length) (hb : ∀ z ∈ zs, IsByte z) (hn : n ≤ 4096) : CallOK Tryz.prog n_laws_FnCones [.slice (some ⟨0, off, none⟩) n c] [(away off (bl zs), none)] (fun v m_ => v = bb true ∧ m_ = [(away off (bl zs), none)]) := by
  refine runs_fn good fn_laws_FnCones ?_
  exact rn_cn_L0 hz hb hn

theorem rn_cn_N4nn  {e1 : Int} {e2 : Int}  (he1 : ¬ e1 = 0) (he2 : ¬ e2 = 0) : RunsOK Tryz.prog Tryz.f3 0 (OutK 0 (fun v m_ => v = bb true ∧ m_ = [])) (tlC 8 (tlC 11 (tlC 3 (tlC 5 (code3))))) (cnW (.slice none 0 0) wild (.slice none 0 0) (ii e1) wild wild (ii e2) wild wild wild wild wild wild) [] :=
  runs_ev good (cn_N4nn he1 he2)

theorem rn_cn_N4no  {e1 : Int} {l : Cn} {n2 : Nat} {c2 : Nat} {s2 : List Value}  (he1 : ¬ e1 = 0) (hl : l.Ok) (hr2 : Row (sl (hilO l)) s2 n2 c2 3) : RunsOK Tryz.prog Tryz.f3 0 (OutK 0 (fun v m_ => v = bb true ∧ m_ = [])) (tlC 8 (tlC 11 (tlC 3 (tlC 5 (code3))))) (cnW (.slice none 0 0) wild (.slice none 0 0) (ii e1) (.pointer (some ⟨0, 0, none⟩)) (.slice (some ⟨1, 0, none⟩) n2 c2) (ii 0) wild wild wild wild wild wild) [([ii l.a, ii l.b, ii l.c, ii l.d, ii l.e, ii l.f, ii l.g, ii l.h, ii l.i], some t_impl_Cone), (sl (hilO l) ++ s2, some t_impl_Spot)] :=
  runs_ev good (cn_N4no he1 hl hr2)

theorem rn_cn_N4on  {k : Cn} {n1 : Nat} {c1 : Nat} {s1 : List Value} {e2 : Int}  (hk : k.Ok) (hr1 : Row (sl (boxO k)) s1 n1 c1 3) (he2 : ¬ e2 = 0) : RunsOK Tryz.prog Tryz.f3 0 (OutK 0 (fun v m_ => v = bb true ∧ m_ = [])) (tlC 8 (tlC 11 (tlC 3 (tlC 5 (code3))))) (cnW (.slice none 0 0) (.pointer (some ⟨0, 0, none⟩)) (.slice (some ⟨1, 0, none⟩) n1 c1) (ii 0) wild wild (ii e2) wild wild wild wild wild wild) [([ii k.a, ii k.b, ii k.c, ii k.d, ii k.e, ii k.f, ii k.g, ii k.h, ii k.i], some t_impl_Cone), (sl (boxO k) ++ s1, some t_impl_Spot)] :=
  runs_ev good (cn_N4on hk hr1 he2)

theorem rn_cn_N4oo  {k : Cn} {n1 : Nat} {c1 : Nat} {s1 : List Value} {l : Cn} {n2 : Nat} {c2 : Nat} {s2 : List Value}  (hk : k.Ok) (hr1 : Row (sl (boxO k)) s1 n1 c1 3) (hl : l.Ok) (hr2 : Row (sl (hilO l)) s2 n2 c2 3) : RunsOK Tryz.prog Tryz.f3 0 (OutK 0 (fun v m_ => v = bb true ∧ m_ = [])) (tlC 8 (tlC 11 (tlC 3 (tlC 5 (code3))))) (cnW (.slice none 0 0) (.pointer (some ⟨0, 0, none⟩)) (.slice (some ⟨1, 0, none⟩) n1 c1) (ii 0) (.pointer (some ⟨2, 0, none⟩)) (.slice (some ⟨3, 0, none⟩) n2 c2) (ii 0) wild wild wild wild wild wild) [([ii k.a, ii k.b, ii k.c, ii k.d, ii k.e, ii k.f, ii k.g, ii k.h, ii k.i], some t_impl_Cone), (sl (boxO k) ++ s1, some t_impl_Spot), ([ii l.a, ii l.b, ii l.c, ii l.d, ii l.e, ii l.f, ii l.g, ii l.h, ii l.i], some t_impl_Cone), (sl (hilO l) ++ s2, some t_impl_Spot)] :=
  runs_ev good (cn_N4oo hk hr1 hl hr2)

theorem rn_cn_N3nnn  {e1 : Int} {e2 : Int}  (he1 : ¬ e1 = 0) (he2 : ¬ e2 = 0) : RunsOK Tryz.prog Tryz.f3 0 (OutK 0 (fun v m_ => v = bb true ∧ m_ = [])) (tlC 11 (tlC 3 (tlC 5 (code3)))) (cnW (.slice none 0 0) wild (.slice none 0 0) (ii e1) wild wild (ii e2) wild wild wild (ii 1) wild wild) [] :=
  runs_cut good 8 (cn_N3nnn he1 he2) (fun tm mem h => by obtain ⟨rfl, rfl⟩ := h; exact rn_cn_N4nn he1 he2)

theorem rn_cn_N3nno  {e1 : Int} {e2 : Int} {t0 : Int} {t1 : Int} {t2 : Int} {t3 : Int} {t4 : Int} {t5 : Int} {t6 : Int} {t7 : Int} {t8 : Int} {t9 : Int} {t10 : Int} {t11 : Int}  (he1 : ¬ e1 = 0) (he2 : ¬ e2 = 0) (hE1 : isConeF t0 t1 t2 t3 t4 t5 t6 t7 t8 = true) (hE2 : isSpF t9 t10 t11 = true) : RunsOK Tryz.prog Tryz.f3 0 (OutK 0 (fun v m_ => v = bb true ∧ m_ = [])) (tlC 11 (tlC 3 (tlC 5 (code3)))) (cnW (.slice none 0 0) wild (.slice none 0 0) (ii e1) wild wild (ii e2) (.pointer (some ⟨0, 0, none⟩)) (.pointer (some ⟨1, 0, none⟩)) (.slice (some ⟨2, 0, none⟩) 3 3) (ii 0) (bb ((isConeF t0 t1 t2 t3 t4 t5 t6 t7 t8 && isSpF t9 t10 t11) && (decide (co0 t0 t1 t2 t3 t4 t5 t6 t7 t8 t9 t10 t11 ≥ 0) && decide (co1 t0 t1 t2 t3 t4 t5 t6 t7 t8 t9 t10 t11 ≥ 0) && decide (co2 t0 t1 t2 t3 t4 t5 t6 t7 t8 t9 t10 t11 ≥ 0)))) wild) [([ii t0, ii t1, ii t2, ii t3, ii t4, ii t5, ii t6, ii t7, ii t8], some t_impl_Cone), ([ii t9, ii t10, ii t11], some t_impl_Spot), (il [co0 t0 t1 t2 t3 t4 t5 t6 t7 t8 t9 t10 t11, co1 t0 t1 t2 t3 t4 t5 t6 t7 t8 t9 t10 t11, co2 t0 t1 t2 t3 t4 t5 t6 t7 t8 t9 t10 t11] ++ [], some t_impl_Spot)] :=
  runs_cut good 8 (cn_N3nno he1 he2 hE1 hE2) (fun tm mem h => by obtain ⟨rfl, rfl⟩ := h; exact rn_cn_N4nn he1 he2)

theorem rn_cn_N3non  {e1 : Int} {l : Cn} {n2 : Nat} {c2 : Nat} {s2 : List Value}  (he1 : ¬ e1 = 0) (hl : l.Ok) (hr2 : Row (sl (hilO l)) s2 n2 c2 3) : RunsOK Tryz.prog Tryz.f3 0 (OutK 0 (fun v m_ => v = bb true ∧ m_ = [])) (tlC 11 (tlC 3 (tlC 5 (code3)))) (cnW (.slice none 0 0) wild (.slice none 0 0) (ii e1) (.pointer (some ⟨0, 0, none⟩)) (.slice (some ⟨1, 0, none⟩) n2 c2) (ii 0) wild wild wild (ii 1) wild wild) [([ii l.a, ii l.b, ii l.c, ii l.d, ii l.e, ii l.f, ii l.g, ii l.h, ii l.i], some t_impl_Cone), (sl (hilO l) ++ s2, some t_impl_Spot)] :=
  runs_cut good 8 (cn_N3non he1 hl hr2) (fun tm mem h => by obtain ⟨rfl, rfl⟩ := h; exact rn_cn_N4no he1 hl hr2)

theorem rn_cn_N3noo  {e1 : Int} {l : Cn} {n2 : Nat} {c2 : Nat} {s2 : List Value} {t0 : Int} {t1 : Int} {t2 : Int} {t3 : Int} {t4 : Int} {t5 : Int} {t6 : Int} {t7 : Int} {t8 : Int} {t9 : Int} {t10 : Int} {t11 : Int}  (he1 : ¬ e1 = 0) (hl : l.Ok) (hr2 : Row (sl (hilO l)) s2 n2 c2 3) (hE1 : isConeF t0 t1 t2 t3 t4 t5 t6 t7 t8 = true) (hE2 : isSpF t9 t10 t11 = true) : RunsOK Tryz.prog Tryz.f3 0 (OutK 0 (fun v m_ => v = bb true ∧ m_ = [])) (tlC 11 (tlC 3 (tlC 5 (code3)))) (cnW (.slice none 0 0) wild (.slice none 0 0) (ii e1) (.pointer (some ⟨0, 0, none⟩)) (.slice (some ⟨1, 0, none⟩) n2 c2) (ii 0) (.pointer (some ⟨2, 0, none⟩)) (.pointer (some ⟨3, 0, none⟩)) (.slice (some ⟨4, 0, none⟩) 3 3) (ii 0) (bb ((isConeF t0 t1 t2 t3 t4 t5 t6 t7 t8 && isSpF t9 t10 t11) && (decide (co0 t0 t1 t2 t3 t4 t5 t6 t7 t8 t9 t10 t11 ≥ 0) && decide (co1 t0 t1 t2 t3 t4 t5 t6 t7 t8 t9 t10 t11 ≥ 0) && decide (co2 t0 t1 t2 t3 t4 t5 t6 t7 t8 t9 t10 t11 ≥ 0)))) wild) [([ii l.a, ii l.b, ii l.c, ii l.d, ii l.e, ii l.f, ii l.g, ii l.h, ii l.i], some t_impl_Cone), (sl (hilO l) ++ s2, some t_impl_Spot), ([ii t0, ii t1, ii t2, ii t3, ii t4, ii t5, ii t6, ii t7, ii t8], some t_impl_Cone), ([ii t9, ii t10, ii t11], some t_impl_Spot), (il [co0 t0 t1 t2 t3 t4 t5 t6 t7 t8 t9 t10 t11, co1 t0 t1 t2 t3 t4 t5 t6 t7 t8 t9 t10 t11, co2 t0 t1 t2 t3 t4 t5 t6 t7 t8 t9 t10 t11] ++ [], some t_impl_Spot)] :=
  runs_cut good 8 (cn_N3noo he1 hl hr2 hE1 hE2) (fun tm mem h => by obtain ⟨rfl, rfl⟩ := h; exact rn_cn_N4no he1 hl hr2)

theorem rn_cn_N3onn  {k : Cn} {n1 : Nat} {c1 : Nat} {s1 : List Value} {e2 : Int}  (hk : k.Ok) (hr1 : Row (sl (boxO k)) s1 n1 c1 3) (he2 : ¬ e2 = 0) : RunsOK Tryz.prog Tryz.f3 0 (OutK 0 (fun v m_ => v = bb true ∧ m_ = [])) (tlC 11 (tlC 3 (tlC 5 (code3)))) (cnW (.slice none 0 0) (.pointer (some ⟨0, 0, none⟩)) (.slice (some ⟨1, 0, none⟩) n1 c1) (ii 0) wild wild (ii e2) wild wild wild (ii 1) wild wild) [([ii k.a, ii k.b, ii k.c, ii k.d, ii k.e, ii k.f, ii k.g, ii k.h, ii k.i], some t_impl_Cone), (sl (boxO k) ++ s1, some t_impl_Spot)] :=
  runs_cut good 8 (cn_N3onn hk hr1 he2) (fun tm mem h => by obtain ⟨rfl, rfl⟩ := h; exact rn_cn_N4on hk hr1 he2)

theorem rn_cn_N3ono  {k : Cn} {n1 : Nat} {c1 : Nat} {s1 : List Value} {e2 : Int} {t0 : Int} {t1 : Int} {t2 : Int} {t3 : Int} {t4 : Int} {t5 : Int} {t6 : Int} {t7 : Int} {t8 : Int} {t9 : Int} {t10 : Int} {t11 : Int}  (hk : k.Ok) (hr1 : Row (sl (boxO k)) s1 n1 c1 3) (he2 : ¬ e2 = 0) (hE1 : isConeF t0 t1 t2 t3 t4 t5 t6 t7 t8 = true) (hE2 : isSpF t9 t10 t11 = true) : RunsOK Tryz.prog Tryz.f3 0 (OutK 0 (fun v m_ => v = bb true ∧ m_ = [])) (tlC 11 (tlC 3 (tlC 5 (code3)))) (cnW (.slice none 0 0) (.pointer (some ⟨0, 0, none⟩)) (.slice (some ⟨1, 0, none⟩) n1 c1) (ii 0) wild wild (ii e2) (.pointer (some ⟨2, 0, none⟩)) (.pointer (some ⟨3, 0, none⟩)) (.slice (some ⟨4, 0, none⟩) 3 3) (ii 0) (bb ((isConeF t0 t1 t2 t3 t4 t5 t6 t7 t8 && isSpF t9 t10 t11) && (decide (co0 t0 t1 t2 t3 t4 t5 t6 t7 t8 t9 t10 t11 ≥ 0) && decide (co1 t0 t1 t2 t3 t4 t5 t6 t7 t8 t9 t10 t11 ≥ 0) && decide (co2 t0 t1 t2 t3 t4 t5 t6 t7 t8 t9 t10 t11 ≥ 0)))) wild) [([ii k.a, ii k.b, ii k.c, ii k.d, ii k.e, ii k.f, ii k.g, ii k.h, ii k.i], some t_impl_Cone), (sl (boxO k) ++ s1, some t_impl_Spot), ([ii t0, ii t1, ii t2, ii t3, ii t4, ii t5, ii t6, ii t7, ii t8], some t_impl_Cone), ([ii t9, ii t10, ii t11], some t_impl_Spot), (il [co0 t0 t1 t2 t3 t4 t5 t6 t7 t8 t9 t10 t11, co1 t0 t1 t2 t3 t4 t5 t6 t7 t8 t9 t10 t11, co2 t0 t1 t2 t3 t4 t5 t6 t7 t8 t9 t10 t11] ++ [], some t_impl_Spot)] :=
  runs_cut good 8 (cn_N3ono hk hr1 he2 hE1 hE2) (fun tm mem h => by obtain ⟨rfl, rfl⟩ := h; exact rn_cn_N4on hk hr1 he2)

theorem rn_cn_N3oon  {k : Cn} {n1 : Nat} {c1 : Nat} {s1 : List Value} {l : Cn} {n2 : Nat} {c2 : Nat} {s2 : List Value}  (hk : k.Ok) (hr1 : Row (sl (boxO k)) s1 n1 c1 3) (hl : l.Ok) (hr2 : Row (sl (hilO l)) s2 n2 c2 3) : RunsOK Tryz.prog Tryz.f3 0 (OutK 0 (fun v m_ => v = bb true ∧ m_ = [])) (tlC 11 (tlC 3 (tlC 5 (code3)))) (cnW (.slice none 0 0) (.pointer (some ⟨0, 0, none⟩)) (.slice (some ⟨1, 0, none⟩) n1 c1) (ii 0) (.pointer (some ⟨2, 0, none⟩)) (.slice (some ⟨3, 0, none⟩) n2 c2) (ii 0) wild wild wild (ii 1) wild wild) [([ii k.a, ii k.b, ii k.c, ii k.d, ii k.e, ii k.f, ii k.g, ii k.h, ii k.i], some t_impl_Cone), (sl (boxO k) ++ s1, some t_impl_Spot), ([ii l.a, ii l.b, ii l.c, ii l.d, ii l.e, ii l.f, ii l.g, ii l.h, ii l.i], some t_impl_Cone), (sl (hilO l) ++ s2, some t_impl_Spot)] :=
  runs_cut good 8 (cn_N3oon hk hr1 hl hr2) (fun tm mem h => by obtain ⟨rfl, rfl⟩ := h; exact rn_cn_N4oo hk hr1 hl hr2)

theorem rn_cn_N3ooo  {k : Cn} {n1 : Nat} {c1 : Nat} {s1 : List Value} {l : Cn} {n2 : Nat} {c2 : Nat} {s2 : List Value} {t0 : Int} {t1 : Int} {t2 : Int} {t3 : Int} {t4 : Int} {t5 : Int} {t6 : Int} {t7 : Int} {t8 : Int} {t9 : Int} {t10 : Int} {t11 : Int}  (hk : k.Ok) (hr1 : Row (sl (boxO k)) s1 n1 c1 3) (hl : l.Ok) (hr2 : Row (sl (hilO l)) s2 n2 c2 3) (hE1 : isConeF t0 t1 t2 t3 t4 t5 t6 t7 t8 = true) (hE2 : isSpF t9 t10 t11 = true) : RunsOK Tryz.prog Tryz.f3 0 (OutK 0 (fun v m_ => v = bb true ∧ m_ = [])) (tlC 11 (tlC 3 (tlC 5 (code3)))) (cnW (.slice none 0 0) (.pointer (some ⟨0, 0, none⟩)) (.slice (some ⟨1, 0, none⟩) n1 c1) (ii 0) (.pointer (some ⟨2, 0, none⟩)) (.slice (some ⟨3, 0, none⟩) n2 c2) (ii 0) (.pointer (some ⟨4, 0, none⟩)) (.pointer (some ⟨5, 0, none⟩)) (.slice (some ⟨6, 0, none⟩) 3 3) (ii 0) (bb ((isConeF t0 t1 t2 t3 t4 t5 t6 t7 t8 && isSpF t9 t10 t11) && (decide (co0 t0 t1 t2 t3 t4 t5 t6 t7 t8 t9 t10 t11 ≥ 0) && decide (co1 t0 t1 t2 t3 t4 t5 t6 t7 t8 t9 t10 t11 ≥ 0) && decide (co2 t0 t1 t2 t3 t4 t5 t6 t7 t8 t9 t10 t11 ≥ 0)))) wild) [([ii k.a, ii k.b, ii k.c, ii k.d, ii k.e, ii k.f, ii k.g, ii k.h, ii k.i], some t_impl_Cone), (sl (boxO k) ++ s1, some t_impl_Spot), ([ii l.a, ii l.b, ii l.c, ii l.d, ii l.e, ii l.f, ii l.g, ii l.h, ii l.i], some t_impl_Cone), (sl (hilO l) ++ s2, some t_impl_Spot), ([ii t0, ii t1, ii t2, ii t3, ii t4, ii t5, ii t6, ii t7, ii t8], some t_impl_Cone), ([ii t9, ii t10, ii t11], some t_impl_Spot), (il [co0 t0 t1 t2 t3 t4 t5 t6 t7 t8 t9 t10 t11, co1 t0 t1 t2 t3 t4 t5 t6 t7 t8 t9 t10 t11, co2 t0 t1 t2 t3 t4 t5 t6 t7 t8 t9 t10 t11] ++ [], some t_impl_Spot)] :=
  runs_cut good 8 (cn_N3ooo hk hr1 hl hr2 hE1 hE2) (fun tm mem h => by obtain ⟨rfl, rfl⟩ := h; exact rn_cn_N4oo hk hr1 hl hr2)

theorem rn_cn_N2nn  {e1 : Int} {e2 : Int}  (he1 : ¬ e1 = 0) (he2 : ¬ e2 = 0) : RunsOK Tryz.prog Tryz.f3 0 (OutK 0 (fun v m_ => v = bb true ∧ m_ = [])) (tlC 3 (tlC 5 (code3))) (cnW (.slice none 0 0) wild (.slice none 0 0) (ii e1) wild wild (ii e2) wild wild wild wild wild wild) [] :=
  runs_cut good 11 (cn_N2nn he1 he2) (fun tm mem h => by
    rcases h with ⟨rfl, rfl⟩ | ⟨t0, t1, t2, t3, t4, t5, t6, t7, t8, t9, t10, t11, hE1, hE2, rfl, rfl⟩
    · exact rn_cn_N3nnn he1 he2
    · exact rn_cn_N3nno he1 he2 hE1 hE2)

theorem rn_cn_N2no  {e1 : Int} {l : Cn} {n2 : Nat} {c2 : Nat} {s2 : List Value}  (he1 : ¬ e1 = 0) (hl : l.Ok) (hr2 : Row (sl (hilO l)) s2 n2 c2 3) : RunsOK Tryz.prog Tryz.f3 0 (OutK 0 (fun v m_ => v = bb true ∧ m_ = [])) (tlC 3 (tlC 5 (code3))) (cnW (.slice none 0 0) wild (.slice none 0 0) (ii e1) (.pointer (some ⟨0, 0, none⟩)) (.slice (some ⟨1, 0, none⟩) n2 c2) (ii 0) wild wild wild wild wild wild) [([ii l.a, ii l.b, ii l.c, ii l.d, ii l.e, ii l.f, ii l.g, ii l.h, ii l.i], some t_impl_Cone), (sl (hilO l) ++ s2, some t_impl_Spot)] :=
  runs_cut good 11 (cn_N2no he1 hl hr2) (fun tm mem h => by
    rcases h with ⟨rfl, rfl⟩ | ⟨t0, t1, t2, t3, t4, t5, t6, t7, t8, t9, t10, t11, hE1, hE2, rfl, rfl⟩
    · exact rn_cn_N3non he1 hl hr2
    · exact rn_cn_N3noo he1 hl hr2 hE1 hE2)

theorem rn_cn_N2on  {k : Cn} {n1 : Nat} {c1 : Nat} {s1 : List Value} {e2 : Int}  (hk : k.Ok) (hr1 : Row (sl (boxO k)) s1 n1 c1 3) (he2 : ¬ e2 = 0) : RunsOK Tryz.prog Tryz.f3 0 (OutK 0 (fun v m_ => v = bb true ∧ m_ = [])) (tlC 3 (tlC 5 (code3))) (cnW (.slice none 0 0) (.pointer (some ⟨0, 0, none⟩)) (.slice (some ⟨1, 0, none⟩) n1 c1) (ii 0) wild wild (ii e2) wild wild wild wild wild wild) [([ii k.a, ii k.b, ii k.c, ii k.d, ii k.e, ii k.f, ii k.g, ii k.h, ii k.i], some t_impl_Cone), (sl (boxO k) ++ s1, some t_impl_Spot)] :=
  runs_cut good 11 (cn_N2on hk hr1 he2) (fun tm mem h => by
    rcases h with ⟨rfl, rfl⟩ | ⟨t0, t1, t2, t3, t4, t5, t6, t7, t8, t9, t10, t11, hE1, hE2, rfl, rfl⟩
    · exact rn_cn_N3onn hk hr1 he2
    · exact rn_cn_N3ono hk hr1 he2 hE1 hE2)

theorem rn_cn_N2oo  {k : Cn} {n1 : Nat} {c1 : Nat} {s1 : List Value} {l : Cn} {n2 : Nat} {c2 : Nat} {s2 : List Value}  (hk : k.Ok) (hr1 : Row (sl (boxO k)) s1 n1 c1 3) (hl : l.Ok) (hr2 : Row (sl (hilO l)) s2 n2 c2 3) : RunsOK Tryz.prog Tryz.f3 0 (OutK 0 (fun v m_ => v = bb true ∧ m_ = [])) (tlC 3 (tlC 5 (code3))) (cnW (.slice none 0 0) (.pointer (some ⟨0, 0, none⟩)) (.slice (some ⟨1, 0, none⟩) n1 c1) (ii 0) (.pointer (some ⟨2, 0, none⟩)) (.slice (some ⟨3, 0, none⟩) n2 c2) (ii 0) wild wild wild wild wild wild) [([ii k.a, ii k.b, ii k.c, ii k.d, ii k.e, ii k.f, ii k.g, ii k.h, ii k.i], some t_impl_Cone), (sl (boxO k) ++ s1, some t_impl_Spot), ([ii l.a, ii l.b, ii l.c, ii l.d, ii l.e, ii l.f, ii l.g, ii l.h, ii l.i], some t_impl_Cone), (sl (hilO l) ++ s2, some t_impl_Spot)] :=
  runs_cut good 11 (cn_N2oo hk hr1 hl hr2) (fun tm mem h => by
    rcases h with ⟨rfl, rfl⟩ | ⟨t0, t1, t2, t3, t4, t5, t6, t7, t8, t9, t10, t11, hE1, hE2, rfl, rfl⟩
    · exact rn_cn_N3oon hk hr1 hl hr2
    · exact rn_cn_N3ooo hk hr1 hl hr2 hE1 hE2)

theorem rn_cn_N1n  {e1 : Int}  (he1 : ¬ e1 = 0) : RunsOK Tryz.prog Tryz.f3 0 (OutK 0 (fun v m_ => v = bb true ∧ m_ = [])) (tlC 5 (code3)) (cnW (.slice none 0 0) wild (.slice none 0 0) (ii e1) wild wild wild wild wild wild wild wild wild) [] :=
  runs_cut good 3 (cn_N1n he1) (fun tm mem h => by
    rcases h with ⟨e2, he2, rfl, rfl⟩ | ⟨l, n2, c2, s2, hl, hr2, rfl, rfl⟩
    · exact rn_cn_N2nn he1 he2
    · exact rn_cn_N2no he1 hl hr2)

theorem rn_cn_N1o  {k : Cn} {n1 : Nat} {c1 : Nat} {s1 : List Value}  (hk : k.Ok) (hr1 : Row (sl (boxO k)) s1 n1 c1 3) : RunsOK Tryz.prog Tryz.f3 0 (OutK 0 (fun v m_ => v = bb true ∧ m_ = [])) (tlC 5 (code3)) (cnW (.slice none 0 0) (.pointer (some ⟨0, 0, none⟩)) (.slice (some ⟨1, 0, none⟩) n1 c1) (ii 0) wild wild wild wild wild wild wild wild wild) [([ii k.a, ii k.b, ii k.c, ii k.d, ii k.e, ii k.f, ii k.g, ii k.h, ii k.i], some t_impl_Cone), (sl (boxO k) ++ s1, some t_impl_Spot)] :=
  runs_cut good 3 (cn_N1o hk hr1) (fun tm mem h => by
    rcases h with ⟨e2, he2, rfl, rfl⟩ | ⟨l, n2, c2, s2, hl, hr2, rfl, rfl⟩
    · exact rn_cn_N2on hk hr1 he2
    · exact rn_cn_N2oo hk hr1 hl hr2)

theorem rn_cn_N0     : RunsOK Tryz.prog Tryz.f3 0 (OutK 0 (fun v m_ => v = bb true ∧ m_ = [])) (code3) ([.slice none 0 0] ++ undefs 421) [] :=
  runs_cut good 5 (cn_N0 ) (fun tm mem h => by
    rcases h with ⟨e1, he1, rfl, rfl⟩ | ⟨k, n1, c1, s1, hk, hr1, rfl, rfl⟩
    · exact rn_cn_N1n he1
    · exact rn_cn_N1o hk hr1)

theorem c_fn_FnCones_N   : CallOK Tryz.prog n_laws_FnCones [.slice none 0 0] [] (fun v m_ => v = bb true ∧ m_ = []) := by
  refine runs_fn good fn_laws_FnCones ?_
  exact rn_cn_N0 

theorem c_fn_FnCones_B {zs : List Int} {off n c : Nat} (hn : ¬ n ≤ 4096) : CallOK Tryz.prog n_laws_FnCones [.slice (some ⟨0, off, none⟩) n c] [(away off (bl zs), none)] (fun v m_ => v = bb true ∧ m_ = [(away off (bl zs), none)]) := by
  refine callOK_ofF good fn_laws_FnCones ?_
  conv => whnf
  all_goals (repeat' first | (refine CallOK.useR c_big_L [0] rfl rfl rfl ⟨⟨⟨_, rfl, .lit (away_conc (bl_plain _) _).symm (fun _ h_ => by cases h_) (away_ok (bl_plain _) _)⟩⟩, trivial⟩ (fun v_ mem_ hR => ?_); obtain ⟨rfl, rfl⟩ := hR; refine ⟨rfl, ?_⟩; conv => whnf) | (refine br_true (b := decide (((n : Nat) : Int) > 4096)) (decide_eq_true ?_) ?_; (focus omega); conv => whnf) | (show OutK _ _ _ _; exact out_forget [] ⟨rfl, rfl⟩ rfl (okB2_spec rfl) ⟨⟨⟨_, rfl, .lit (away_conc (bl_plain _) _).symm rfl (away_ok (bl_plain _) _)⟩⟩, trivial⟩ rfl rfl) | (refine StoreK.mk rfl ?_; conv => whnf) | exact join_same | exact (by assumption : (_ : Bool) = (_ : Bool)) | (refine br_true (by assumption) ?_; conv => whnf) | (refine br_false (by assumption) ?_; conv => whnf) | (refine br_not ?_; conv => whnf) | (refine br_code ?_; conv => whnf) | (with_reducible refine br_and ?_; conv => whnf) | (with_reducible refine br_or ?_; conv => whnf) | (refine br_eq2 ?_; conv => whnf) | (refine draw_auto (by decide +kernel) ?_; conv => whnf) | (refine draw_asg (by decide +kernel) ?_; conv => whnf) | (refine draw_st (by decide +kernel) ?_; conv => whnf) | (refine draw_call (by decide +kernel) ?_; conv => whnf) | (refine enter_same (loop_n 12 ?_); conv => whnf) | (refine next_same ?_; conv => whnf) | (refine mapK_row (by assumption) ?_; conv => whnf) | (refine mapK_plain (Plain.of rfl) ?_; conv => whnf) | (refine mapK_lit ?_; conv => whnf) | (refine br_split (fun _ => ?_) (fun _ => ?_) <;> conv => whnf) | exact (rfl : (_ : Value) = _) | (simp only [*]; exact (rfl : (_ : Value) = _)) | (simp [*]; done))

theorem c_laws_FnCones_list {zs : List Int} {off n c : Nat} (hz : n ≤ zs.length) (hb : ∀ z ∈ zs, IsByte z) : CallOK Tryz.prog n_laws_FnCones [.slice (some ⟨0, off, none⟩) n c] [(away off (bl zs), none)] (fun v m_ => v = bb true ∧ m_ = [(away off (bl zs), none)]) := by
  by_cases hn : n ≤ 4096
  · exact c_fn_FnCones_L hz hb hn
  · exact c_fn_FnCones_B hn
theorem c_laws_FnCones_nil : CallOK Tryz.prog n_laws_FnCones [.slice none 0 0] [] (fun v m_ => v = bb true ∧ m_ = []) := c_fn_FnCones_N

end Go.Proofs.YtndmkibdcfpddaaGreat
