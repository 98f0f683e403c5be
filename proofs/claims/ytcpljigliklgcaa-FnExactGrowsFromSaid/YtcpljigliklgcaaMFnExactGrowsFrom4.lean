/- Parts of the proof of the law FnExactGrowsFrom, joined into one text. -/
import Derived.Test.YtcpljigliklgcaaMFnExactGrowsFrom3
section
namespace Go.Proofs.Ytcpljigliklgcaa.Q
open Go.RowKit Go.Proofs.YtcpljigliklgcaaW.PrintWords Go.Proofs.YtcpljigliklgcaaW.PrintLast Go.Proofs.YtcpljigliklgcaaW.PrintMore
attribute [local go_sem] max2_int min2_int max_two min_two max_three min_three max_four min_four   -- for this text's walks alone
set_option linter.unusedVariables false
set_option linter.unusedSimpArgs false
attribute [local go_sem] bin_leq bin_gtr bin_geq
attribute [local go_sem high] eqA178
abbrev spec_l10Grows.m0 : Array Bool := #[false, false, false, false, false, false, false, false, false, false, false, false, false, false, false, false, false, false, false, false, false, false, false, false, false, false, false, false]
abbrev spec_l10Grows.m1 : Array Bool := #[true, false, false, false, false, false, false, false, false, false, false, false, false, false, false, false, false, false, false, false, false, false, false, false, false, false, false, false]
abbrev spec_l10Grows.m2 : Array Bool := #[true, false, false, true, false, false, false, false, false, false, false, false, false, false, false, false, false, false, false, false, false, false, false, false, false, false, false, false]
abbrev spec_l10Grows.m3 : Array Bool := #[true, true, false, true, false, false, false, false, false, false, false, false, false, false, false, false, false, false, false, false, false, false, false, false, false, false, false, false]
abbrev spec_l10Grows.m4 : Array Bool := #[true, true, true, true, false, false, false, false, false, false, false, false, false, false, false, false, false, false, false, false, false, false, false, false, false, false, false, false]
abbrev spec_l10Grows.m5 : Array Bool := #[true, true, true, true, true, false, false, false, false, false, false, false, false, false, false, false, false, false, false, false, false, false, false, false, false, false, false, false]
abbrev spec_l10Grows.m6 : Array Bool := #[true, true, true, true, true, true, false, false, false, false, false, false, false, false, false, false, false, false, false, false, false, false, false, false, false, false, false, false]
abbrev spec_l10Grows.m7 : Array Bool := #[true, true, true, true, true, true, true, false, false, false, false, false, false, false, false, false, false, false, false, false, false, false, false, false, false, false, false, false]
abbrev spec_l10Grows.m8 : Array Bool := #[true, true, true, true, true, true, true, true, false, false, false, false, false, false, false, false, false, false, false, false, false, false, false, false, false, false, false, false]
abbrev spec_l10Grows.m9 : Array Bool := #[true, true, true, true, true, true, true, true, true, false, false, false, false, false, false, false, false, false, false, false, false, false, false, false, false, false, false, false]
abbrev spec_l10Grows.m10 : Array Bool := #[true, true, true, true, true, true, true, true, true, true, true, true, false, false, false, false, false, false, false, false, false, false, false, false, false, false, false, false]
abbrev spec_l10Grows.m11 : Array Bool := #[true, true, true, true, true, true, true, true, true, true, true, true, true, false, false, false, false, false, false, false, false, false, false, false, false, false, false, false]
abbrev spec_l10Grows.m12 : Array Bool := #[true, true, true, true, true, true, true, true, true, true, true, true, true, true, false, false, false, false, false, false, false, false, false, false, false, false, false, false]
abbrev spec_l10Grows.m13 : Array Bool := #[true, true, true, true, true, true, true, true, true, true, true, true, true, true, true, false, false, false, false, false, false, false, false, false, false, false, false, false]
abbrev spec_l10Grows.m14 : Array Bool := #[true, true, true, true, true, true, true, true, true, true, true, true, true, true, true, true, false, false, false, false, false, false, false, false, false, false, false, false]
abbrev spec_l10Grows.m15 : Array Bool := #[true, true, true, true, true, true, true, true, true, true, true, true, true, true, true, true, true, false, false, false, false, false, false, false, false, false, false, false]
abbrev spec_l10Grows.m16 : Array Bool := #[true, true, true, true, true, true, true, true, true, true, true, true, true, true, true, true, true, true, false, false, false, false, false, false, false, false, false, false]
abbrev spec_l10Grows.m17 : Array Bool := #[true, true, true, true, true, true, true, true, true, true, true, true, true, true, true, true, true, true, true, false, false, false, false, false, false, false, false, false]
abbrev spec_l10Grows.m18 : Array Bool := #[true, true, true, true, true, true, true, true, true, true, true, true, true, true, true, true, true, true, true, true, false, false, false, false, false, false, false, false]
abbrev spec_l10Grows.m19 : Array Bool := #[true, true, true, true, true, true, true, true, true, true, true, true, true, true, true, true, true, true, true, true, true, false, false, false, false, false, false, false]
abbrev spec_l10Grows.m20 : Array Bool := #[true, true, true, true, true, true, true, true, true, true, true, true, true, true, true, true, true, true, true, true, true, true, false, false, false, false, false, false]
abbrev spec_l10Grows.m21 : Array Bool := #[true, true, true, true, true, true, true, true, true, true, true, true, true, true, true, true, true, true, true, true, true, true, true, false, false, false, false, false]
abbrev spec_l10Grows.m22 : Array Bool := #[true, true, true, true, true, true, true, true, true, true, true, true, true, true, true, true, true, true, true, true, true, true, true, true, false, false, false, false]
abbrev spec_l10Grows.m23 : Array Bool := #[true, true, true, true, true, true, true, true, true, true, true, true, true, true, true, true, true, true, true, true, true, true, true, true, true, false, false, false]
abbrev spec_l10Grows.m24 : Array Bool := #[true, true, true, true, true, true, true, true, true, true, true, true, true, true, true, true, true, true, true, true, true, true, true, true, true, true, false, false]
abbrev spec_l10Grows.m25 : Array Bool := #[true, true, true, true, true, true, true, true, true, true, true, true, true, true, true, true, true, true, true, true, true, true, true, true, true, true, true, false]
abbrev spec_l10Grows.m26 : Array Bool := #[true, true, true, true, true, true, true, true, true, true, true, true, true, true, true, true, true, true, true, true, true, true, true, true, true, true, true, true]
abbrev spec_l10Grows.m27 : Array Bool := #[true, true, true, true, true, true, true, true, true, false, false, true, false, false, false, false, false, false, false, false, false, false, false, false, false, false, false, false]
abbrev spec_l10Grows.m28 : Array Bool := #[true, true, true, true, true, true, true, true, true, true, false, true, false, false, false, false, false, false, false, false, false, false, false, false, false, false, false, false]
abbrev spec_l10Grows.m29 : Array Bool := #[false, false, false, false, false, false, false, false, false, false, false, false, false, false, false, false, false, false, false, false, false, false, false, false, false, false, false, false, false, false, false, false, false, false, false, false, false, false, false, false, false, false, false, false, false, false, false, false, false, false, false, false, false, false, false, false]
abbrev spec_l10Grows.m30 : Array Bool := #[true, false, false, false, false, false, false, false, false, false, false, false, false, false, false, false, false, false, false, false, false, false, false, false, false, false, false, false, false, false, false, false, false, false, false, false, false, false, false, false, false, false, false, false, false, false, false, false, false, false, false, false, false, false, false, false]
abbrev spec_l10Grows.m31 : Array Bool := #[true, false, true, false, false, false, false, false, false, false, false, false, false, false, false, false, false, false, false, false, false, false, false, false, false, false, false, false, false, false, false, false, false, false, false, false, false, false, false, false, false, false, false, false, false, false, false, false, false, false, false, false, false, false, false, false]
abbrev spec_l10Grows.m32 : Array Bool := #[true, false, true, false, false, false, true, false, false, false, false, false, false, false, false, false, false, false, false, false, false, false, false, false, false, false, false, false, false, false, false, false, false, false, false, false, false, false, false, false, false, false, false, false, false, false, false, false, false, false, false, false, false, false, false, false]
abbrev spec_l10Grows.m33 : Array Bool := #[true, false, true, false, false, false, true, false, true, false, false, false, false, false, false, false, false, false, false, false, false, false, false, false, false, false, false, false, false, false, false, false, false, false, false, false, false, false, false, false, false, false, false, false, false, false, false, false, false, false, false, false, false, false, false, false]
abbrev spec_l10Grows.m34 : Array Bool := #[true, true, true, false, false, false, true, false, true, false, false, false, false, false, false, false, false, false, false, false, false, false, false, false, false, false, false, false, false, false, false, false, false, false, false, false, false, false, false, false, false, false, false, false, false, false, false, false, false, false, false, false, false, false, false, false]
abbrev spec_l10Grows.m35 : Array Bool := #[true, true, true, true, false, false, true, false, true, false, false, false, false, false, false, false, false, false, false, false, false, false, false, false, false, false, false, false, false, false, false, false, false, false, false, false, false, false, false, false, false, false, false, false, false, false, false, false, false, false, false, false, false, false, false, false]
abbrev spec_l10Grows.m36 : Array Bool := #[true, true, true, true, true, false, true, false, true, false, false, false, false, false, false, false, false, false, false, false, false, false, false, false, false, false, false, false, false, false, false, false, false, false, false, false, false, false, false, false, false, false, false, false, false, false, false, false, false, false, false, false, false, false, false, false]
abbrev spec_l10Grows.m37 : Array Bool := #[true, true, true, true, true, true, true, false, true, false, false, false, false, false, false, false, false, false, false, false, false, false, false, false, false, false, false, false, false, false, false, false, false, false, false, false, false, false, false, false, false, false, false, false, false, false, false, false, false, false, false, false, false, false, false, false]
abbrev spec_l10Grows.m38 : Array Bool := #[true, true, true, true, true, true, true, true, true, false, false, false, false, false, false, false, false, false, false, false, false, false, false, false, false, false, false, false, false, false, false, false, false, false, false, false, false, false, false, false, false, false, false, false, false, false, false, false, false, false, false, false, false, false, false, false]
abbrev spec_l10Grows.m39 : Array Bool := #[true, true, true, true, true, true, true, true, true, true, false, false, false, false, false, false, false, false, false, false, false, false, false, false, false, false, false, false, false, false, false, false, false, false, false, false, false, false, false, false, false, false, false, false, false, false, false, false, false, false, false, false, false, false, false, false]
abbrev spec_l10Grows.m40 : Array Bool := #[true, true, true, true, true, true, true, true, true, true, true, false, false, false, false, false, false, false, false, false, false, false, false, false, false, false, false, false, false, false, false, false, false, false, false, false, false, false, false, false, false, false, false, false, false, false, false, false, false, false, false, false, false, false, false, false]
abbrev spec_l10Grows.m41 : Array Bool := #[true, true, true, true, true, true, true, true, true, true, true, true, false, false, false, false, false, false, false, false, false, false, false, false, false, false, false, false, false, false, false, false, false, false, false, false, false, false, false, false, false, false, false, false, false, false, false, false, false, false, false, false, false, false, false, false]
abbrev spec_l10Grows.m42 : Array Bool := #[true, true, true, true, true, true, true, true, true, true, true, true, true, false, false, false, false, false, false, false, false, false, false, false, false, false, false, false, false, false, false, false, false, false, false, false, false, false, false, false, false, false, false, false, false, false, false, false, false, false, false, false, false, false, false, false]
abbrev spec_l10Grows.m43 : Array Bool := #[true, true, true, true, true, true, true, true, true, true, true, true, true, true, false, false, false, false, false, false, false, false, false, false, false, false, false, false, false, false, false, false, false, false, false, false, false, false, false, false, false, false, false, false, false, false, false, false, false, false, false, false, false, false, false, false]
abbrev spec_l10Grows.m44 : Array Bool := #[true, true, true, true, true, true, true, true, true, true, true, true, true, true, true, false, false, false, false, false, false, false, false, false, false, false, false, false, false, false, false, false, false, false, false, false, false, false, false, false, false, false, false, false, false, false, false, false, false, false, false, false, false, false, false, false]
abbrev spec_l10Grows.m45 : Array Bool := #[true, true, true, true, true, true, true, true, true, true, true, true, true, true, true, false, true, false, false, false, false, false, false, false, false, false, false, false, false, false, false, false, false, false, false, false, false, false, false, false, false, false, false, false, false, false, false, false, false, false, false, false, false, false, false, false]
abbrev spec_l10Grows.m46 : Array Bool := #[true, true, true, true, true, true, true, true, true, true, true, true, true, true, true, false, true, false, false, false, true, false, false, false, false, false, false, false, false, false, false, false, false, false, false, false, false, false, false, false, false, false, false, false, false, false, false, false, false, false, false, false, false, false, false, false]
abbrev spec_l10Grows.m47 : Array Bool := #[true, true, true, true, true, true, true, true, true, true, true, true, true, true, true, false, true, false, false, false, true, false, true, false, false, false, false, false, false, false, false, false, false, false, false, false, false, false, false, false, false, false, false, false, false, false, false, false, false, false, false, false, false, false, false, false]
abbrev spec_l10Grows.m48 : Array Bool := #[true, true, true, true, true, true, true, true, true, true, true, true, true, true, true, true, true, false, false, false, true, false, true, false, false, false, false, false, false, false, false, false, false, false, false, false, false, false, false, false, false, false, false, false, false, false, false, false, false, false, false, false, false, false, false, false]
abbrev spec_l10Grows.m49 : Array Bool := #[true, true, true, true, true, true, true, true, true, true, true, true, true, true, true, true, true, true, false, false, true, false, true, false, false, false, false, false, false, false, false, false, false, false, false, false, false, false, false, false, false, false, false, false, false, false, false, false, false, false, false, false, false, false, false, false]
abbrev spec_l10Grows.m50 : Array Bool := #[true, true, true, true, true, true, true, true, true, true, true, true, true, true, true, true, true, true, true, false, true, false, true, false, false, false, false, false, false, false, false, false, false, false, false, false, false, false, false, false, false, false, false, false, false, false, false, false, false, false, false, false, false, false, false, false]
abbrev spec_l10Grows.m51 : Array Bool := #[true, true, true, true, true, true, true, true, true, true, true, true, true, true, true, true, true, true, true, true, true, false, true, false, false, false, false, false, false, false, false, false, false, false, false, false, false, false, false, false, false, false, false, false, false, false, false, false, false, false, false, false, false, false, false, false]
abbrev spec_l10Grows.m52 : Array Bool := #[true, true, true, true, true, true, true, true, true, true, true, true, true, true, true, true, true, true, true, true, true, true, true, false, false, false, false, false, false, false, false, false, false, false, false, false, false, false, false, false, false, false, false, false, false, false, false, false, false, false, false, false, false, false, false, false]
abbrev spec_l10Grows.m53 : Array Bool := #[true, true, true, true, true, true, true, true, true, true, true, true, true, true, true, true, true, true, true, true, true, true, true, true, false, false, false, false, false, false, false, false, false, false, false, false, false, false, false, false, false, false, false, false, false, false, false, false, false, false, false, false, false, false, false, false]
abbrev spec_l10Grows.m54 : Array Bool := #[true, true, true, true, true, true, true, true, true, true, true, true, true, true, true, true, true, true, true, true, true, true, true, true, true, false, false, false, false, false, false, false, false, false, false, false, false, false, false, false, false, false, false, false, false, false, false, false, false, false, false, false, false, false, false, false]
abbrev spec_l10Grows.m55 : Array Bool := #[true, true, true, true, true, true, true, true, true, true, true, true, true, true, true, true, true, true, true, true, true, true, true, true, true, true, false, false, false, false, false, false, false, false, false, false, false, false, false, false, false, false, false, false, false, false, false, false, false, false, false, false, false, false, false, false]
abbrev spec_l10Grows.m56 : Array Bool := #[true, true, true, true, true, true, true, true, true, true, true, true, true, true, true, true, true, true, true, true, true, true, true, true, true, true, true, false, false, false, false, false, false, false, false, false, false, false, false, false, false, false, false, false, false, false, false, false, false, false, false, false, false, false, false, false]
abbrev spec_l10Grows.m57 : Array Bool := #[true, true, true, true, true, true, true, true, true, true, true, true, true, true, true, true, true, true, true, true, true, true, true, true, true, true, true, true, false, false, false, false, false, false, false, false, false, false, false, false, false, false, false, false, false, false, false, false, false, false, false, false, false, false, false, false]
abbrev spec_l10Grows.m58 : Array Bool := #[true, true, true, true, true, true, true, true, true, true, true, true, true, true, true, true, true, true, true, true, true, true, true, true, true, true, true, true, true, false, false, false, false, false, false, false, false, false, false, false, false, false, false, false, false, false, false, false, false, false, false, false, false, false, false, false]
abbrev spec_l10Grows.m59 : Array Bool := #[true, true, true, true, true, true, true, true, true, true, true, true, true, true, true, true, true, true, true, true, true, true, true, true, true, true, true, true, true, true, false, false, false, false, false, false, false, false, false, false, false, false, false, false, false, false, false, false, false, false, false, false, false, false, false, false]
abbrev spec_l10Grows.m60 : Array Bool := #[true, true, true, true, true, true, true, true, true, true, true, true, true, true, true, true, true, true, true, true, true, true, true, true, true, true, true, true, true, true, true, false, false, false, false, false, false, false, false, false, false, false, false, false, false, false, false, false, false, false, false, false, false, false, false, false]
abbrev spec_l10Grows.m61 : Array Bool := #[true, true, true, true, true, true, true, true, true, true, true, true, true, true, true, true, true, true, true, true, true, true, true, true, true, true, true, true, true, true, true, true, false, false, false, false, false, false, false, false, false, false, false, false, false, false, false, false, false, false, false, false, false, false, false, false]
abbrev spec_l10Grows.m62 : Array Bool := #[true, true, true, true, true, true, true, true, true, true, true, true, true, true, true, true, true, true, true, true, true, true, true, true, true, true, true, true, true, true, true, true, true, false, false, false, false, false, false, false, false, false, false, false, false, false, false, false, false, false, false, false, false, false, false, false]
abbrev spec_l10Grows.m63 : Array Bool := #[true, true, true, true, true, true, true, true, true, true, true, true, true, true, true, true, true, true, true, true, true, true, true, true, true, true, true, true, true, true, true, true, true, true, false, false, false, false, false, false, false, false, false, false, false, false, false, false, false, false, false, false, false, false, false, false]
abbrev spec_l10Grows.m64 : Array Bool := #[true, true, true, true, true, true, true, true, true, true, true, true, true, true, true, true, true, true, true, true, true, true, true, true, true, true, true, true, true, true, true, true, true, true, true, false, false, false, false, false, false, false, false, false, false, false, false, false, false, false, false, false, false, false, false, false]
abbrev spec_l10Grows.m65 : Array Bool := #[true, true, true, true, true, true, true, true, true, true, true, true, true, true, true, true, true, true, true, true, true, true, true, true, true, true, true, true, true, true, true, true, true, true, true, true, false, false, false, false, false, false, false, false, false, false, false, false, false, false, false, false, false, false, false, false]
abbrev spec_l10Grows.m66 : Array Bool := #[true, true, true, true, true, true, true, true, true, true, true, true, true, true, true, true, true, true, true, true, true, true, true, true, true, true, true, true, true, true, true, true, true, true, true, true, true, false, false, false, false, false, false, false, false, false, false, false, false, false, false, false, false, false, false, false]
abbrev spec_l10Grows.m67 : Array Bool := #[true, true, true, true, true, true, true, true, true, true, true, true, true, true, true, true, true, true, true, true, true, true, true, true, true, true, true, true, true, true, true, true, true, true, true, true, true, true, false, false, false, false, false, false, false, false, false, false, false, false, false, false, false, false, false, false]
abbrev spec_l10Grows.m68 : Array Bool := #[true, true, true, true, true, true, true, true, true, true, true, true, true, true, true, true, true, true, true, true, true, true, true, true, true, true, true, true, true, true, true, true, true, true, true, true, true, true, true, false, false, false, false, false, false, false, false, false, false, false, false, false, false, false, false, false]
abbrev spec_l10Grows.m69 : Array Bool := #[true, true, true, true, true, true, true, true, true, true, true, true, true, true, true, true, true, true, true, true, true, true, true, true, true, true, true, true, true, true, true, true, true, true, true, true, true, true, true, true, false, false, false, false, false, false, false, false, false, false, false, false, false, false, false, false]
abbrev spec_l10Grows.m70 : Array Bool := #[true, true, true, true, true, true, true, true, true, true, true, true, true, true, true, true, true, true, true, true, true, true, true, true, true, true, true, true, true, true, true, true, true, true, true, true, true, true, true, true, true, false, false, false, false, false, false, false, false, false, false, false, false, false, false, false]
abbrev spec_l10Grows.m71 : Array Bool := #[true, true, true, true, true, true, true, true, true, true, true, true, true, true, true, true, true, true, true, true, true, true, true, true, true, true, true, true, true, true, true, true, true, true, true, true, true, true, true, true, true, true, false, false, false, false, false, false, false, false, false, false, false, false, false, false]
abbrev spec_l10Grows.m72 : Array Bool := #[true, true, true, true, true, true, true, true, true, true, true, true, true, true, true, true, true, true, true, true, true, true, true, true, true, true, true, true, true, true, true, true, true, true, true, true, true, true, true, true, true, true, true, false, false, false, false, false, false, false, false, false, false, false, false, false]
abbrev spec_l10Grows.m73 : Array Bool := #[true, true, true, true, true, true, true, true, true, true, true, true, true, true, true, true, true, true, true, true, true, true, true, true, true, true, true, true, true, true, true, true, true, true, true, true, true, true, true, true, true, true, true, true, false, false, false, false, false, false, false, false, false, false, false, false]
abbrev spec_l10Grows.m74 : Array Bool := #[true, true, true, true, true, true, true, true, true, true, true, true, true, true, true, true, true, true, true, true, true, true, true, true, true, true, true, true, true, true, true, true, true, true, true, true, true, true, true, true, true, true, true, true, true, false, false, false, false, false, false, false, false, false, false, false]
abbrev spec_l10Grows.m75 : Array Bool := #[true, true, true, true, true, true, true, true, true, true, true, true, true, true, true, true, true, true, true, true, true, true, true, true, true, true, true, true, true, true, true, true, true, true, true, true, true, true, true, true, true, true, true, true, true, true, false, false, false, false, false, false, false, false, false, false]
abbrev spec_l10Grows.m76 : Array Bool := #[true, true, true, true, true, true, true, true, true, true, true, true, true, true, true, true, true, true, true, true, true, true, true, true, true, true, true, true, true, true, true, true, true, true, true, true, true, true, true, true, true, true, true, true, true, true, true, false, false, false, false, false, false, false, false, false]
abbrev spec_l10Grows.m77 : Array Bool := #[true, true, true, true, true, true, true, true, true, true, true, true, true, true, true, true, true, true, true, true, true, true, true, true, true, true, true, true, true, true, true, true, true, true, true, true, true, true, true, true, true, true, true, true, true, true, true, true, false, false, false, false, false, false, false, false]
abbrev spec_l10Grows.m78 : Array Bool := #[true, true, true, true, true, true, true, true, true, true, true, true, true, true, true, true, true, true, true, true, true, true, true, true, true, true, true, true, true, true, true, true, true, true, true, true, true, true, true, true, true, true, true, true, true, true, true, true, true, false, false, false, false, false, false, false]
abbrev spec_l10Grows.m79 : Array Bool := #[true, true, true, true, true, true, true, true, true, true, true, true, true, true, true, true, true, true, true, true, true, true, true, true, true, true, true, true, true, true, true, true, true, true, true, true, true, true, true, true, true, true, true, true, true, true, true, true, true, true, false, false, false, false, false, false]
abbrev spec_l10Grows.m80 : Array Bool := #[true, true, true, true, true, true, true, true, true, true, true, true, true, true, true, true, true, true, true, true, true, true, true, true, true, true, true, true, true, true, true, true, true, true, true, true, true, true, true, true, true, true, true, true, true, true, true, true, true, true, true, false, false, false, false, false]
abbrev spec_l10Grows.m81 : Array Bool := #[true, true, true, true, true, true, true, true, true, true, true, true, true, true, true, true, true, true, true, true, true, true, true, true, true, true, true, true, true, true, true, true, true, true, true, true, true, true, true, true, true, true, true, true, true, true, true, true, true, true, true, true, false, false, false, false]
abbrev spec_l10Grows.m82 : Array Bool := #[true, true, true, true, true, true, true, true, true, true, true, true, true, true, true, true, true, true, true, true, true, true, true, true, true, true, true, true, true, true, true, true, true, true, true, true, true, true, true, true, true, true, true, true, true, true, true, true, true, true, true, true, true, false, false, false]
abbrev spec_l10Grows.m83 : Array Bool := #[true, true, true, true, true, true, true, true, true, true, true, true, true, true, true, true, true, true, true, true, true, true, true, true, true, true, true, true, true, true, true, true, true, true, true, true, true, true, true, true, true, true, true, true, true, true, true, true, true, true, true, true, true, true, false, false]
abbrev spec_l10Grows.m84 : Array Bool := #[true, true, true, true, true, true, true, true, true, true, true, true, true, true, true, true, true, true, true, true, true, true, true, true, true, true, true, true, true, true, true, true, true, true, true, true, true, true, true, true, true, true, true, true, true, true, true, true, true, true, true, true, true, true, true, false]
abbrev spec_l10Grows.m85 : Array Bool := #[true, true, true, true, true, true, true, true, true, true, true, true, true, true, true, true, true, true, true, true, true, true, true, true, true, true, true, true, true, true, true, true, true, true, true, true, true, true, true, true, true, true, true, true, true, true, true, true, true, true, true, true, true, true, true, true]
abbrev spec_l10Grows.m86 : Array Bool := #[true, true, true, true, true, true, true, true, true, true, true, true, true, true, true, true, true, true, true, true, true, true, true, true, true, true, true, true, true, true, false, true, false, false, false, false, false, false, false, false, false, false, false, false, false, false, false, false, false, false, false, false, false, false, false, false]
abbrev spec_l10Grows.m87 : Array Bool := #[true, true, true, true, true, true, true, true, true, true, true, true, true, true, true, true, true, true, true, true, true, true, true, true, true, true, true, true, true, true, false, true, false, false, false, true, false, false, false, false, false, false, false, false, false, false, false, false, false, false, false, false, false, false, false, false]
abbrev spec_l10Grows.m88 : Array Bool := #[true, true, true, true, true, true, true, true, true, true, true, true, true, true, true, true, true, true, true, true, true, true, true, true, true, true, true, true, true, true, false, true, false, false, false, true, false, true, false, false, false, false, false, false, false, false, false, false, false, false, false, false, false, false, false, false]
abbrev spec_l10Grows.m89 : Array Bool := #[true, true, true, true, true, true, true, true, true, true, true, true, true, true, true, true, true, true, true, true, true, true, true, true, true, true, true, true, true, true, true, true, false, false, false, true, false, true, false, false, false, false, false, false, false, false, false, false, false, false, false, false, false, false, false, false]
abbrev spec_l10Grows.m90 : Array Bool := #[true, true, true, true, true, true, true, true, true, true, true, true, true, true, true, true, true, true, true, true, true, true, true, true, true, true, true, true, true, true, true, true, true, false, false, true, false, true, false, false, false, false, false, false, false, false, false, false, false, false, false, false, false, false, false, false]
abbrev spec_l10Grows.m91 : Array Bool := #[true, true, true, true, true, true, true, true, true, true, true, true, true, true, true, true, true, true, true, true, true, true, true, true, true, true, true, true, true, true, true, true, true, true, false, true, false, true, false, false, false, false, false, false, false, false, false, false, false, false, false, false, false, false, false, false]
abbrev spec_l10Grows.m92 : Array Bool := #[true, true, true, true, true, true, true, true, true, true, true, true, true, true, true, true, true, true, true, true, true, true, true, true, true, true, true, true, true, true, true, true, true, true, true, true, false, true, false, false, false, false, false, false, false, false, false, false, false, false, false, false, false, false, false, false]
abbrev spec_l10Grows.m93 : Array Bool := #[true, true, true, true, true, true, true, true, true, true, true, true, true, true, true, true, true, true, true, true, true, true, true, true, true, true, true, true, true, true, true, true, true, true, true, true, true, true, true, true, true, true, true, true, false, true, false, false, false, false, false, false, false, false, false, false]
abbrev spec_l10Grows.m94 : Array Bool := #[true, true, true, true, true, true, true, true, true, true, true, true, true, true, true, true, true, true, true, true, true, true, true, true, true, true, true, true, true, true, true, true, true, true, true, true, true, true, true, true, true, true, true, true, false, true, false, false, true, false, false, false, false, false, false, false]
abbrev spec_l10Grows.m95 : Array Bool := #[true, true, true, true, true, true, true, true, true, true, true, true, true, true, true, true, true, true, true, true, true, true, true, true, true, true, true, true, true, true, true, true, true, true, true, true, true, true, true, true, true, true, true, true, false, true, false, false, true, false, true, false, false, false, false, false]
abbrev spec_l10Grows.m96 : Array Bool := #[true, true, true, true, true, true, true, true, true, true, true, true, true, true, true, true, true, true, true, true, true, true, true, true, true, true, true, true, true, true, true, true, true, true, true, true, true, true, true, true, true, true, true, true, true, true, false, false, true, false, true, false, false, false, false, false]
abbrev spec_l10Grows.m97 : Array Bool := #[true, true, true, true, true, true, true, true, true, true, true, true, true, true, true, true, true, true, true, true, true, true, true, true, true, true, true, true, true, true, true, true, true, true, true, true, true, true, true, true, true, true, true, true, true, true, true, false, true, false, true, false, false, false, false, false]
abbrev spec_l10Grows.m98 : Array Bool := #[true, true, true, true, true, true, true, true, true, true, true, true, true, true, true, true, true, true, true, true, true, true, true, true, true, true, true, true, true, true, true, true, true, true, true, true, true, true, true, true, true, true, true, true, true, true, true, true, true, false, true, false, false, false, false, false]
mutual
def spec_l10Grows.j0 : Nat → Bool → List (S118) → List (S178) → List (S118) → List (S178) → Option (Bool)
 | 0, _, _, _, _, _ => none
 | k + 1, x33, x780000, x780001, x781000, x781001 => if x33 = true then (some false) else (spec_l10Grows.l0 k 0 x780000 x780001 x781000 x781001)
def spec_l10Grows.l0 : Nat → Int → List (S118) → List (S178) → List (S118) → List (S178) → Option (Bool)
 | 0, _, _, _, _, _ => none
 | k + 1, x5, x780000, x780001, x781000, x781001 => if x5 < (x780001.length : Int) then (if 0 ≤ x5 then (if x5 < (x781001.length : Int) then (if ((rd_T178 x781001 x5).f0).toList = ((rd_T178 x780001 x5).f0).toList then (if ((rd_T178 x781001 x5).f2) < ((rd_T178 x780001 x5).f2) then (some false) else (if ((rd_T178 x781001 x5).f2) = ((rd_T178 x780001 x5).f2) then (if (!((((rd_T178 x781001 x5).f0).toList) == (((rd_T178 x780001 x5).f0).toList)) || (!(((rd_T178 x781001 x5).f1) == ((rd_T178 x780001 x5).f1)) || (!(((rd_T178 x781001 x5).f2) == ((rd_T178 x780001 x5).f2)) || (!(((rd_T178 x781001 x5).f3) == ((rd_T178 x780001 x5).f3)))))) = true then (some false) else (spec_l10Grows.l0 k (wrap64 (x5 + 1)) x780000 x780001 x781000 x781001)) else (spec_l10Grows.l0 k (wrap64 (x5 + 1)) x780000 x780001 x781000 x781001))) else (some false)) else (none)) else (none)) else (some true)
end
def spec_l10Grows.f (k : Nat) (l0_0 : List (S118)) (l0_1 : List (S178)) (l1_0 : List (S118)) (l1_1 : List (S178)) : Option (Bool) := if (l1_0.length : Int) < (l0_0.length : Int) then (spec_l10Grows.j0 k true l0_0 l0_1 l1_0 l1_1) else (if (l1_1.length : Int) < (l0_1.length : Int) then (spec_l10Grows.j0 k true l0_0 l0_1 l1_0 l1_1) else (if 0 ≤ (l0_0.length : Int) then (if (l0_0.length : Int) ≤ (l1_0.length : Int) then ((spec_l03Same.f k l0_0 (l1_0.take ((l0_0.length : Int) : Int).toNat)).bind fun t785 => (spec_l10Grows.j0 k (!t785) l0_0 l0_1 l1_0 l1_1)) else (none)) else (none)))
def spec_l10Grows.T1 : Bool × List (List Nat × List Nat) := (true, [([], []), ([0], [0]), ([1], [1]), ([], []), ([3], [3]), ([4], [4]), ([2, 5], [2, 5]), ([6], [6]), ([7], [7]), ([8, 7], [7, 8]), ([9, 7], [7, 9]), ([7], [7]), ([11, 7], [7, 11]), ([12, 7], [7, 12]), ([10, 13, 7], [7, 10, 13]), ([7, 14], [7, 14]), ([15, 7], [15]), ([16], [16]), ([17, 16], [16, 17]), ([16], [16]), ([19, 16], [16, 19]), ([16], [16]), ([21, 16], [16, 21]), ([22, 16], [16, 22]), ([20, 23, 16], [16, 20, 23]), ([18, 24, 16, 16], [16, 18, 24]), ([25, 16], [16, 25]), ([16, 26], [16, 26])])
def spec_l10Grows.B1 : List Nat := [0, 1, 3, 0, 8, 24, 63, 127, 255, 511, 1023, 255, 2303, 6399, 16383, 32767, 65535, 131071, 262143, 131071, 655359, 131071, 2228223, 6422527, 16383999, 33554431, 67108863, 134217727]
theorem spec_l10Grows.tab1 : rtab .any (opsOf Try.f123 1) = spec_l10Grows.T1 := by kernel_rfl
theorem spec_l10Grows.bits1 : waitsOk spec_l10Grows.T1.2 spec_l10Grows.B1 = true := by kernel_rfl
def spec_l10Grows.T6 : Bool × List (List Nat × List Nat) := (true, [([], []), ([0], [0]), ([], []), ([1, 2], [1, 2]), ([3], [3]), ([4], [4]), ([], []), ([6], [6]), ([], []), ([7, 8], [7, 8]), ([9], [9]), ([10], [10]), ([5, 11], [5, 11]), ([12], [12]), ([13], [13]), ([14, 13], [13, 14]), ([13], [13]), ([15, 16, 13], [13, 15, 16]), ([17, 13], [13, 17]), ([18, 13], [13, 18]), ([13], [13]), ([20, 13], [13, 20]), ([13], [13]), ([21, 22, 13], [13, 21, 22]), ([23, 13], [13, 23]), ([24, 13], [13, 24]), ([19, 25, 13], [13, 19, 25]), ([13, 26], [13, 26]), ([27, 13], [27]), ([28], [28]), ([29, 28], [28, 29]), ([28], [28]), ([30, 31, 28], [28, 30, 31]), ([32, 28], [28, 32]), ([33, 28], [28, 33]), ([28], [28]), ([35, 28], [28, 35]), ([28], [28]), ([36, 37, 28], [28, 36, 37]), ([38, 28], [28, 38]), ([39, 28], [28, 39]), ([34, 40, 28], [28, 34, 40]), ([41, 28, 28], [28, 41]), ([42], [42]), ([43, 42], [42, 43]), ([42], [42]), ([44, 45, 42], [42, 44, 45]), ([46, 42], [42, 46]), ([42], [42]), ([48, 42], [42, 48]), ([42], [42]), ([49, 50, 42], [42, 49, 50]), ([51, 42], [42, 51]), ([47, 52, 42], [42, 47, 52]), ([42, 53, 28], [28, 42, 53]), ([28, 54], [28, 54])])
def spec_l10Grows.B6 : List Nat := [0, 1, 0, 7, 15, 31, 0, 64, 0, 448, 960, 1984, 4095, 8191, 16383, 32767, 16383, 131071, 262143, 524287, 16383, 1064959, 16383, 7356415, 15745023, 32522239, 67108863, 134217727, 268435455, 536870911, 1073741823, 536870911, 4294967295, 8589934591, 17179869183, 536870911, 34896609279, 536870911, 241055039487, 515932946431, 1065688760319, 2199023255551, 4398046511103, 8796093022207, 17592186044415, 8796093022207, 70368744177663, 140737488355327, 8796093022207, 290271069732863, 8796093022207, 1979120929996799, 4230920743682047, 9007199254740991, 18014398509481983, 36028797018963967]
theorem spec_l10Grows.tab6 : rtab .any (opsOf Try.f123 6) = spec_l10Grows.T6 := by kernel_rfl
theorem spec_l10Grows.bits6 : waitsOk spec_l10Grows.T6.2 spec_l10Grows.B6 = true := by kernel_rfl
set_option maxHeartbeats 8000000 in
set_option maxRecDepth 100000 in
theorem spec_l10Grows.calls (k : Nat) (A0_0 : Option Addr) (c0_0 : Nat) (l0_0 : List (S118)) (A0_1 : Option Addr) (c0_1 : Nat) (l0_1 : List (S178)) (A1_0 : Option Addr) (c1_0 : Nat) (l1_0 : List (S118)) (A1_1 : Option Addr) (c1_1 : Nat) (l1_1 : List (S178)) (r : Bool) (w : World) (hr0_0 : Kd.C k118 w A0_0 l0_0.length l0_0) (hc0_0 : l0_0.length ≤ c0_0) (hr0_1 : Kd.C k178 w A0_1 l0_1.length l0_1) (hc0_1 : l0_1.length ≤ c0_1) (hr1_0 : Kd.C k118 w A1_0 l1_0.length l1_0) (hc1_0 : l1_0.length ≤ c1_0) (hr1_1 : Kd.C k178 w A1_1 l1_1.length l1_1) (hc1_1 : l1_1.length ≤ c1_1) (h : spec_l10Grows.f k l0_0 l0_1 l1_0 l1_1 = some r) :
  Calls Try.prog 123 #[.agg #[.slice A0_0 l0_0.length c0_0, .slice A0_1 l0_1.length c0_1], .agg #[.slice A1_0 l1_0.length c1_0, .slice A1_1 l1_1.length c1_1]] w fun e w' => e = .returned (.bool r) ∧ Below w.heap.size w w' := by
 have hu66 := Try.underlying66
 have hu178 := Try.underlying178
 have HR0_0 := Aside0.mk hr0_0
 have HC0_0 := Aside0.mk hc0_0
 clear hr0_0 hc0_0
 have HR0_1 := Aside0.mk hr0_1
 have HC0_1 := Aside0.mk hc0_1
 clear hr0_1 hc0_1
 have HR1_0 := Aside0.mk hr1_0
 have HC1_0 := Aside0.mk hc1_0
 clear hr1_0 hc1_0
 have HR1_1 := Aside0.mk hr1_1
 have HC1_1 := Aside0.mk hc1_1
 clear hr1_1 hc1_1
 have HB := Aside0.mk (Below.refl w.heap.size w)
 have H : (if (l1_0.length : Int) < (l0_0.length : Int) then (spec_l10Grows.j0 k true l0_0 l0_1 l1_0 l1_1) else (if (l1_1.length : Int) < (l0_1.length : Int) then (spec_l10Grows.j0 k true l0_0 l0_1 l1_0 l1_1) else (if 0 ≤ (l0_0.length : Int) then (if (l0_0.length : Int) ≤ (l1_0.length : Int) then ((spec_l03Same.f k l0_0 (l1_0.take ((l0_0.length : Int) : Int).toNat)).bind fun t785 => (spec_l10Grows.j0 k (!t785) l0_0 l0_1 l1_0 l1_1)) else (none)) else (none)))) = some r := h
 clear h
 have HC3 := Aside0.mk H
 clear H
 go_enter Try.func123, Try.ntmps123
 go_upto_region 1 with (first | ((with_reducible refine gate_dst (N := 2) rfl ?_); (try (refine gate_guard (by rfl) ?_; dsimp only)); refine bE (N := 2) (cs := #[.slice A0_0 l0_0.length c0_0, .slice A0_1 l0_1.length c0_1]) (t := 66) ?_; intro gb779 hg w4 hbox hb; have n0_ := Aside0.mk (below_step (w := w) bW hb); have n1_ := Aside0.mk (hbox); have n2_ := Aside0.mk (gS (w := w) hg); have n3_ := n2_; clear HB; have HB := n0_; have BK779 := n1_; have GW779 := n2_; have GE779 := n3_; clear n0_ n1_ n2_ n3_; clear hb hbox hg) | ((with_reducible refine gate_dst (N := 3) rfl ?_); (try (refine gate_guard (by rfl) ?_; dsimp only)); refine bE (N := 3) (cs := #[.slice A1_0 l1_0.length c1_0, .slice A1_1 l1_1.length c1_1]) (t := 66) ?_; intro gb780 hg w5 hbox hb; have n0_ := Aside0.mk (kb BK779 hb); have n1_ := Aside0.mk (below_step (w := w) bW hb); have n2_ := Aside0.mk (hbox); have n3_ := Aside0.mk (gS (w := w) hg); have n4_ := n3_; have n5_ := Aside0.mk (nL BK779 hg); have n6_ := Aside0.mk (nG BK779 hg); clear BK779; clear HB; have BK779 := n0_; have HB := n1_; have BK780 := n2_; have GW780 := n3_; have GE780 := n4_; have NB779_780 := n5_; have NB780_779 := n6_; clear n0_ n1_ n2_ n3_ n4_ n5_ n6_; clear hb hbox hg))
 (try simp only [Act.put, List.setIfInBounds_toArray, List.set_cons_zero, List.set_cons_succ])
 go_cut [33] (fun v33 wc => ∃ (kq : Nat) (x33_2 : Bool), v33 = .bool x33_2 ∧ Aside0 (spec_l10Grows.j0 kq x33_2 l0_0 l0_1 l1_0 l1_1 = some r) ∧ Aside0 (kq ≤ k) ∧ Aside0 (wc.heap[gb779]? = some (.cells #[(.slice A0_0 l0_0.length c0_0), (.slice A0_1 l0_1.length c0_1)] 66 (0, 0))) ∧ Aside0 (wc.heap[gb780]? = some (.cells #[(.slice A1_0 l1_0.length c1_0), (.slice A1_1 l1_1.length c1_1)] 66 (0, 0))) ∧ Aside0 (Below w.heap.size w wc))
 case first =>
  have H := HC3.out
  clear HC3
  by_cases c6 : (l1_0.length : Int) < (l0_0.length : Int)
  ·rw [if_pos c6] at H
   have c6b0 : decide ((l1_0.length : Int) < (l0_0.length : Int)) = true := decide_eq_true c6
   have c6b1 : decide (l1_0.length < l0_0.length) = true := decide_eq_true (Int.ofNat_lt.mp c6)
   clear c6
   (first | rw [c6b0] | (simp only [i64_w, i32_w]; rw [c6b0]) | skip)
   have H' := Aside0.mk H
   clear H
   try go_wp2
   have n0_ := Aside0.mk (blk_drew BK779.out)
   have n1_ := Aside0.mk (blk_drew BK780.out)
   have n2_ := Aside0.mk (below_drew1 HB.out)
   clear BK779
   clear BK780
   clear HB
   have BK779 := n0_
   have BK780 := n1_
   have HB := n2_
   clear n0_ n1_ n2_
   refine start_ (n := 28) (S := fun w' => w'.cell? ⟨gb780, 0, none⟩ = some (.slice A1_0 l1_0.length c1_0) ∧ w'.cell? ⟨gb780, 1, none⟩ = some (.slice A1_1 l1_1.length c1_1) ∧ w'.cell? ⟨gb779, 0, none⟩ = some (.slice A0_0 l0_0.length c0_0) ∧ w'.cell? ⟨gb779, 1, none⟩ = some (.slice A0_1 l0_1.length c0_1)) (ds := []) spec_l10Grows.m0 (by kernel_rfl) rfl rfl ⟨(blk_cell BK780.out 0).trans rfl, (blk_cell BK780.out 1).trans rfl, (blk_cell BK779.out 0).trans rfl, (blk_cell BK779.out 1).trans rfl⟩ (fun hHeld => ?_); refine with_tabW spec_l10Grows.tab1 spec_l10Grows.bits1 (fun HT_ HW_ => ?_)
   generalize w5.drew = w7 at BK779 BK780 HB hHeld ⊢
   refine pure_ (i := 0) (N := some 6) (v := ?_) (a' := ?_) spec_l10Grows.m1 rfl rfl (any_of HT_.out (by kernel_rfl)) (fun _ _ _ h => h) (Or.inl ⟨by rfl, ?_⟩) ?_ ?_; rotate_left; (focus intro w'; go_simp; with_reducible rfl); rotate_left; (focus simp only [pt, i64_w, i32_w]; rfl)
   refine pure_ (i := 3) (N := some 9) (v := ?_) (a' := ?_) spec_l10Grows.m2 rfl rfl (any_of HT_.out (by kernel_rfl)) (fun _ _ _ h => h) (Or.inl ⟨by rfl, ?_⟩) ?_ ?_; rotate_left; (focus intro w'; go_simp; with_reducible rfl); rotate_left; (focus simp only [pt, i64_w, i32_w]; rfl)
   refine take_ (i := 1) (N := some 7) (v := ?_) (a' := ?_) spec_l10Grows.m3 rfl rfl (take_ofW HT_.out HW_.out (by kernel_rfl)) (fun _ _ _ h => h) (Or.inl ⟨by rfl, ?_⟩) hHeld ?_ ?_; rotate_left; (focus rintro w' ⟨s0, s1, s2, s3⟩; go_simp; with_reducible rfl); rotate_left; (focus simp only [pt, i64_w, i32_w]; rfl)
   refine pure_ (i := 2) (N := some 8) (v := ?_) (a' := ?_) spec_l10Grows.m4 rfl rfl (any_of HT_.out (by kernel_rfl)) (fun _ _ _ h => h) (Or.inl ⟨by rfl, ?_⟩) ?_ ?_; rotate_left; (focus intro w'; go_simp; with_reducible rfl); rotate_left; (focus simp only [pt, i64_w, i32_w]; rfl)
   refine take_ (i := 4) (N := some 10) (v := ?_) (a' := ?_) spec_l10Grows.m5 rfl rfl (take_ofW HT_.out HW_.out (by kernel_rfl)) (fun _ _ _ h => h) (Or.inl ⟨by rfl, ?_⟩) hHeld ?_ ?_; rotate_left; (focus rintro w' ⟨s0, s1, s2, s3⟩; go_simp; with_reducible rfl); rotate_left; (focus simp only [pt, i64_w, i32_w]; rfl)
   refine pure_ (i := 5) (N := some 11) (v := ?_) (a' := ?_) spec_l10Grows.m6 rfl rfl (any_of HT_.out (by kernel_rfl)) (fun _ _ _ h => h) (Or.inl ⟨by rfl, ?_⟩) ?_ ?_; rotate_left; (focus intro w'; go_simp; with_reducible rfl); rotate_left; (focus simp only [pt, i64_w, i32_w]; rfl)
   refine pure_ (i := 6) (N := some 12) (v := ?_) (a' := ?_) spec_l10Grows.m7 rfl rfl (any_of HT_.out (by kernel_rfl)) (fun _ _ _ h => h) (Or.inl ⟨by rfl, ?_⟩) ?_ ?_; rotate_left; (focus intro w'; go_simp; with_reducible rfl); rotate_left; (focus simp only [pt, i64_w, i32_w]; rfl)
   refine pure_ (i := 7) (N := some 13) (v := ?_) (a' := ?_) spec_l10Grows.m8 rfl rfl (any_of HT_.out (by kernel_rfl)) (fun _ _ _ h => h) (Or.inl ⟨by rfl, ?_⟩) ?_ ?_; rotate_left; (focus intro w'; go_simp; with_reducible rfl); rotate_left; (focus simp only [pt, i64_w, i32_w]; rfl)
   refine pure_ (i := 8) (N := some 14) (v := undef) (a' := ?_) spec_l10Grows.m9 rfl rfl (any_of HT_.out (by kernel_rfl)) (fun _ _ _ h => h) (Or.inr ⟨by rfl, rfl⟩) ?_ ?_; rotate_left; (focus simp only [pt, i64_w, i32_w]; rfl)
   refine pure_ (i := 9) (N := some 15) (v := undef) (a' := ?_) #[true, true, true, true, true, true, true, true, true, true, false, false, false, false, false, false, false, false, false, false, false, false, false, false, false, false, false, false] rfl rfl (any_of HT_.out (by kernel_rfl)) (fun _ _ _ h => h) (Or.inr ⟨by rfl, rfl⟩) ?_ ?_; rotate_left; (focus simp only [pt, i64_w, i32_w]; rfl)
   refine pure_ (i := 10) (N := some 16) (v := undef) (a' := ?_) #[true, true, true, true, true, true, true, true, true, true, true, false, false, false, false, false, false, false, false, false, false, false, false, false, false, false, false, false] rfl rfl (any_of HT_.out (by kernel_rfl)) (fun _ _ _ h => h) (Or.inr ⟨by rfl, rfl⟩) ?_ ?_; rotate_left; (focus simp only [pt, i64_w, i32_w]; rfl)
   refine pure_ (i := 11) (N := some 17) (v := undef) (a' := ?_) spec_l10Grows.m10 rfl rfl (any_of HT_.out (by kernel_rfl)) (fun _ _ _ h => h) (Or.inr ⟨by rfl, rfl⟩) ?_ ?_; rotate_left; (focus simp only [pt, i64_w, i32_w]; rfl)
   refine pure_ (i := 12) (N := some 18) (v := undef) (a' := ?_) spec_l10Grows.m11 rfl rfl (any_of HT_.out (by kernel_rfl)) (fun _ _ _ h => h) (Or.inr ⟨by rfl, rfl⟩) ?_ ?_; rotate_left; (focus simp only [pt, i64_w, i32_w]; rfl)
   refine pure_ (i := 13) (N := some 19) (v := undef) (a' := ?_) spec_l10Grows.m12 rfl rfl (any_of HT_.out (by kernel_rfl)) (fun _ _ _ h => h) (Or.inr ⟨by rfl, rfl⟩) ?_ ?_; rotate_left; (focus simp only [pt, i64_w, i32_w]; rfl)
   refine pure_ (i := 14) (N := some 20) (v := undef) (a' := ?_) spec_l10Grows.m13 rfl rfl (any_of HT_.out (by kernel_rfl)) (fun _ _ _ h => h) (Or.inr ⟨by rfl, rfl⟩) ?_ ?_; rotate_left; (focus simp only [pt, i64_w, i32_w]; rfl)
   refine pure_ (i := 15) (N := some 21) (v := ?_) (a' := ?_) spec_l10Grows.m14 rfl rfl (any_of HT_.out (by kernel_rfl)) (fun _ _ _ h => h) (Or.inl ⟨by rfl, ?_⟩) ?_ ?_; rotate_left; (focus intro w'; go_simp; with_reducible rfl); rotate_left; (focus simp only [pt, i64_w, i32_w]; rfl)
   refine pure_ (i := 16) (N := some 22) (v := ?_) (a' := ?_) spec_l10Grows.m15 rfl rfl (any_of HT_.out (by kernel_rfl)) (fun _ _ _ h => h) (Or.inl ⟨by rfl, ?_⟩) ?_ ?_; rotate_left; (focus intro w'; go_simp; with_reducible rfl); rotate_left; (focus simp only [pt, i64_w, i32_w]; rfl)
   refine pure_ (i := 17) (N := some 23) (v := undef) (a' := ?_) spec_l10Grows.m16 rfl rfl (any_of HT_.out (by kernel_rfl)) (fun _ _ _ h => h) (Or.inr ⟨by rfl, rfl⟩) ?_ ?_; rotate_left; (focus simp only [pt, i64_w, i32_w]; rfl)
   refine pure_ (i := 18) (N := some 24) (v := undef) (a' := ?_) spec_l10Grows.m17 rfl rfl (any_of HT_.out (by kernel_rfl)) (fun _ _ _ h => h) (Or.inr ⟨by rfl, rfl⟩) ?_ ?_; rotate_left; (focus simp only [pt, i64_w, i32_w]; rfl)
   refine pure_ (i := 19) (N := some 25) (v := undef) (a' := ?_) spec_l10Grows.m18 rfl rfl (any_of HT_.out (by kernel_rfl)) (fun _ _ _ h => h) (Or.inr ⟨by rfl, rfl⟩) ?_ ?_; rotate_left; (focus simp only [pt, i64_w, i32_w]; rfl)
   refine pure_ (i := 20) (N := some 26) (v := undef) (a' := ?_) spec_l10Grows.m19 rfl rfl (any_of HT_.out (by kernel_rfl)) (fun _ _ _ h => h) (Or.inr ⟨by rfl, rfl⟩) ?_ ?_; rotate_left; (focus simp only [pt, i64_w, i32_w]; rfl)
   refine pure_ (i := 21) (N := some 27) (v := undef) (a' := ?_) spec_l10Grows.m20 rfl rfl (any_of HT_.out (by kernel_rfl)) (fun _ _ _ h => h) (Or.inr ⟨by rfl, rfl⟩) ?_ ?_; rotate_left; (focus simp only [pt, i64_w, i32_w]; rfl)
   refine pure_ (i := 22) (N := some 28) (v := undef) (a' := ?_) spec_l10Grows.m21 rfl rfl (any_of HT_.out (by kernel_rfl)) (fun _ _ _ h => h) (Or.inr ⟨by rfl, rfl⟩) ?_ ?_; rotate_left; (focus simp only [pt, i64_w, i32_w]; rfl)
   refine pure_ (i := 23) (N := some 29) (v := undef) (a' := ?_) spec_l10Grows.m22 rfl rfl (any_of HT_.out (by kernel_rfl)) (fun _ _ _ h => h) (Or.inr ⟨by rfl, rfl⟩) ?_ ?_; rotate_left; (focus simp only [pt, i64_w, i32_w]; rfl)
   refine pure_ (i := 24) (N := some 30) (v := undef) (a' := ?_) spec_l10Grows.m23 rfl rfl (any_of HT_.out (by kernel_rfl)) (fun _ _ _ h => h) (Or.inr ⟨by rfl, rfl⟩) ?_ ?_; rotate_left; (focus simp only [pt, i64_w, i32_w]; rfl)
   refine pure_ (i := 25) (N := some 31) (v := undef) (a' := ?_) spec_l10Grows.m24 rfl rfl (any_of HT_.out (by kernel_rfl)) (fun _ _ _ h => h) (Or.inr ⟨by rfl, rfl⟩) ?_ ?_; rotate_left; (focus simp only [pt, i64_w, i32_w]; rfl)
   refine pure_ (i := 26) (N := some 32) (v := undef) (a' := ?_) spec_l10Grows.m25 rfl rfl (any_of HT_.out (by kernel_rfl)) (fun _ _ _ h => h) (Or.inr ⟨by rfl, rfl⟩) ?_ ?_; rotate_left; (focus simp only [pt, i64_w, i32_w]; rfl)
   refine pure_ (i := 27) (N := some 33) (v := ?_) (a' := ?_) spec_l10Grows.m26 rfl rfl (any_of HT_.out (by kernel_rfl)) (fun _ _ _ h => h) (Or.inl ⟨by rfl, ?_⟩) ?_ ?_; rotate_left; (focus intro w'; go_simp; with_reducible rfl); rotate_left; (focus simp only [pt, i64_w, i32_w]; rfl)
   refine done_ (done_of HT_.out (by kernel_rfl)) ?_
   try go_wp2
   go_meet
   case rel => exact ⟨_, (true), vE, H', ⟨by first | omega | exact Nat.le_refl _⟩, ⟨by (with_reducible repeat (first | refine blk_drewN ?_ _ | refine blk_drew ?_ | refine blk_alloc ?_ _)); exact BK779.out⟩, ⟨by (with_reducible repeat (first | refine blk_drewN ?_ _ | refine blk_drew ?_ | refine blk_alloc ?_ _)); exact BK780.out⟩, ⟨bW⟩⟩
  ·rw [if_neg c6] at H
   have c6b0 : decide ((l1_0.length : Int) < (l0_0.length : Int)) = false := decide_eq_false c6
   have c6b1 : decide (l1_0.length < l0_0.length) = false := decide_eq_false (fun h => c6 (Int.ofNat_lt.mpr h))
   clear c6
   (first | rw [c6b0] | (simp only [i64_w, i32_w]; rw [c6b0]) | skip)
   by_cases c8 : (l1_1.length : Int) < (l0_1.length : Int)
   ·rw [if_pos c8] at H
    have c8b0 : decide ((l1_1.length : Int) < (l0_1.length : Int)) = true := decide_eq_true c8
    have c8b1 : decide (l1_1.length < l0_1.length) = true := decide_eq_true (Int.ofNat_lt.mp c8)
    clear c8
    have H' := Aside0.mk H
    clear H
    try go_wp2
    have n0_ := Aside0.mk (blk_drew BK779.out)
    have n1_ := Aside0.mk (blk_drew BK780.out)
    have n2_ := Aside0.mk (below_drew1 HB.out)
    clear BK779
    clear BK780
    clear HB
    have BK779 := n0_
    have BK780 := n1_
    have HB := n2_
    clear n0_ n1_ n2_
    refine start_ (n := 28) (S := fun w' => w'.cell? ⟨gb780, 0, none⟩ = some (.slice A1_0 l1_0.length c1_0) ∧ w'.cell? ⟨gb780, 1, none⟩ = some (.slice A1_1 l1_1.length c1_1) ∧ w'.cell? ⟨gb779, 0, none⟩ = some (.slice A0_0 l0_0.length c0_0) ∧ w'.cell? ⟨gb779, 1, none⟩ = some (.slice A0_1 l0_1.length c0_1)) (ds := []) spec_l10Grows.m0 (by kernel_rfl) rfl rfl ⟨(blk_cell BK780.out 0).trans rfl, (blk_cell BK780.out 1).trans rfl, (blk_cell BK779.out 0).trans rfl, (blk_cell BK779.out 1).trans rfl⟩ (fun hHeld => ?_); refine with_tabW spec_l10Grows.tab1 spec_l10Grows.bits1 (fun HT_ HW_ => ?_)
    generalize w5.drew = w9 at BK779 BK780 HB hHeld ⊢
    refine pure_ (i := 0) (N := some 6) (v := ?_) (a' := ?_) spec_l10Grows.m1 rfl rfl (any_of HT_.out (by kernel_rfl)) (fun _ _ _ h => h) (Or.inl ⟨by rfl, ?_⟩) ?_ ?_; rotate_left; (focus intro w'; go_simp; with_reducible rfl); rotate_left; (focus simp only [pt, i64_w, i32_w]; rfl)
    refine pure_ (i := 3) (N := some 9) (v := ?_) (a' := ?_) spec_l10Grows.m2 rfl rfl (any_of HT_.out (by kernel_rfl)) (fun _ _ _ h => h) (Or.inl ⟨by rfl, ?_⟩) ?_ ?_; rotate_left; (focus intro w'; go_simp; with_reducible rfl); rotate_left; (focus simp only [pt, i64_w, i32_w]; rfl)
    refine take_ (i := 1) (N := some 7) (v := ?_) (a' := ?_) spec_l10Grows.m3 rfl rfl (take_ofW HT_.out HW_.out (by kernel_rfl)) (fun _ _ _ h => h) (Or.inl ⟨by rfl, ?_⟩) hHeld ?_ ?_; rotate_left; (focus rintro w' ⟨s0, s1, s2, s3⟩; go_simp; with_reducible rfl); rotate_left; (focus simp only [pt, i64_w, i32_w]; rfl)
    refine pure_ (i := 2) (N := some 8) (v := ?_) (a' := ?_) spec_l10Grows.m4 rfl rfl (any_of HT_.out (by kernel_rfl)) (fun _ _ _ h => h) (Or.inl ⟨by rfl, ?_⟩) ?_ ?_; rotate_left; (focus intro w'; go_simp; with_reducible rfl); rotate_left; (focus simp only [pt, i64_w, i32_w]; rfl)
    refine take_ (i := 4) (N := some 10) (v := ?_) (a' := ?_) spec_l10Grows.m5 rfl rfl (take_ofW HT_.out HW_.out (by kernel_rfl)) (fun _ _ _ h => h) (Or.inl ⟨by rfl, ?_⟩) hHeld ?_ ?_; rotate_left; (focus rintro w' ⟨s0, s1, s2, s3⟩; go_simp; with_reducible rfl); rotate_left; (focus simp only [pt, i64_w, i32_w]; rfl)
    refine pure_ (i := 5) (N := some 11) (v := ?_) (a' := ?_) spec_l10Grows.m6 rfl rfl (any_of HT_.out (by kernel_rfl)) (fun _ _ _ h => h) (Or.inl ⟨by rfl, ?_⟩) ?_ ?_; rotate_left; (focus intro w'; go_simp; with_reducible rfl); rotate_left; (focus simp only [pt, i64_w, i32_w]; rfl)
    refine pure_ (i := 6) (N := some 12) (v := ?_) (a' := ?_) spec_l10Grows.m7 rfl rfl (any_of HT_.out (by kernel_rfl)) (fun _ _ _ h => h) (Or.inl ⟨by rfl, ?_⟩) ?_ ?_; rotate_left; (focus intro w'; go_simp; with_reducible rfl); rotate_left; (focus simp only [pt, i64_w, i32_w]; rfl)
    refine pure_ (i := 7) (N := some 13) (v := ?_) (a' := ?_) spec_l10Grows.m8 rfl rfl (any_of HT_.out (by kernel_rfl)) (fun _ _ _ h => h) (Or.inl ⟨by rfl, ?_⟩) ?_ ?_; rotate_left; (focus intro w'; go_simp; with_reducible rfl); rotate_left; (focus simp only [pt, i64_w, i32_w]; rfl)
    refine pure_ (i := 8) (N := some 14) (v := ?_) (a' := ?_) spec_l10Grows.m9 rfl rfl (any_of HT_.out (by kernel_rfl)) (fun _ _ _ h => h) (Or.inl ⟨by rfl, ?_⟩) ?_ ?_; rotate_left; (focus intro w'; go_simp; with_reducible rfl); rotate_left; (focus simp only [pt, i64_w, i32_w]; rfl)
    refine pure_ (i := 11) (N := some 17) (v := ?_) (a' := ?_) spec_l10Grows.m27 rfl rfl (any_of HT_.out (by kernel_rfl)) (fun _ _ _ h => h) (Or.inl ⟨by rfl, ?_⟩) ?_ ?_; rotate_left; (focus intro w'; go_simp; with_reducible rfl); rotate_left; (focus simp only [pt, i64_w, i32_w]; rfl)
    refine take_ (i := 9) (N := some 15) (v := ?_) (a' := ?_) spec_l10Grows.m28 rfl rfl (take_ofW HT_.out HW_.out (by kernel_rfl)) (fun _ _ _ h => h) (Or.inl ⟨by rfl, ?_⟩) hHeld ?_ ?_; rotate_left; (focus rintro w' ⟨s0, s1, s2, s3⟩; go_simp; with_reducible rfl); rotate_left; (focus simp only [pt, i64_w, i32_w]; rfl)
    refine pure_ (i := 10) (N := some 16) (v := ?_) (a' := ?_) spec_l10Grows.m10 rfl rfl (any_of HT_.out (by kernel_rfl)) (fun _ _ _ h => h) (Or.inl ⟨by rfl, ?_⟩) ?_ ?_; rotate_left; (focus intro w'; go_simp; with_reducible rfl); rotate_left; (focus simp only [pt, i64_w, i32_w]; rfl)
    refine take_ (i := 12) (N := some 18) (v := ?_) (a' := ?_) spec_l10Grows.m11 rfl rfl (take_ofW HT_.out HW_.out (by kernel_rfl)) (fun _ _ _ h => h) (Or.inl ⟨by rfl, ?_⟩) hHeld ?_ ?_; rotate_left; (focus rintro w' ⟨s0, s1, s2, s3⟩; go_simp; with_reducible rfl); rotate_left; (focus simp only [pt, i64_w, i32_w]; rfl)
    refine pure_ (i := 13) (N := some 19) (v := ?_) (a' := ?_) spec_l10Grows.m12 rfl rfl (any_of HT_.out (by kernel_rfl)) (fun _ _ _ h => h) (Or.inl ⟨by rfl, ?_⟩) ?_ ?_; rotate_left; (focus intro w'; go_simp; with_reducible rfl); rotate_left; (focus simp only [pt, i64_w, i32_w]; rfl)
    refine pure_ (i := 14) (N := some 20) (v := ?_) (a' := ?_) spec_l10Grows.m13 rfl rfl (any_of HT_.out (by kernel_rfl)) (fun _ _ _ h => h) (Or.inl ⟨by rfl, ?_⟩) ?_ ?_; rotate_left; (focus intro w'; go_simp; with_reducible rfl); rotate_left; (focus simp only [pt, i64_w, i32_w]; rfl)
    refine pure_ (i := 15) (N := some 21) (v := ?_) (a' := ?_) spec_l10Grows.m14 rfl rfl (any_of HT_.out (by kernel_rfl)) (fun _ _ _ h => h) (Or.inl ⟨by rfl, ?_⟩) ?_ ?_; rotate_left; (focus intro w'; go_simp; with_reducible rfl); rotate_left; (focus simp only [pt, i64_w, i32_w]; rfl)
    refine pure_ (i := 16) (N := some 22) (v := ?_) (a' := ?_) spec_l10Grows.m15 rfl rfl (any_of HT_.out (by kernel_rfl)) (fun _ _ _ h => h) (Or.inl ⟨by rfl, ?_⟩) ?_ ?_; rotate_left; (focus intro w'; go_simp; with_reducible rfl); rotate_left; (focus simp only [pt, i64_w, i32_w]; rfl)
    refine pure_ (i := 17) (N := some 23) (v := undef) (a' := ?_) spec_l10Grows.m16 rfl rfl (any_of HT_.out (by kernel_rfl)) (fun _ _ _ h => h) (Or.inr ⟨by rfl, rfl⟩) ?_ ?_; rotate_left; (focus simp only [pt, i64_w, i32_w]; rfl)
    refine pure_ (i := 18) (N := some 24) (v := undef) (a' := ?_) spec_l10Grows.m17 rfl rfl (any_of HT_.out (by kernel_rfl)) (fun _ _ _ h => h) (Or.inr ⟨by rfl, rfl⟩) ?_ ?_; rotate_left; (focus simp only [pt, i64_w, i32_w]; rfl)
    refine pure_ (i := 19) (N := some 25) (v := undef) (a' := ?_) spec_l10Grows.m18 rfl rfl (any_of HT_.out (by kernel_rfl)) (fun _ _ _ h => h) (Or.inr ⟨by rfl, rfl⟩) ?_ ?_; rotate_left; (focus simp only [pt, i64_w, i32_w]; rfl)
    refine pure_ (i := 20) (N := some 26) (v := undef) (a' := ?_) spec_l10Grows.m19 rfl rfl (any_of HT_.out (by kernel_rfl)) (fun _ _ _ h => h) (Or.inr ⟨by rfl, rfl⟩) ?_ ?_; rotate_left; (focus simp only [pt, i64_w, i32_w]; rfl)
    refine pure_ (i := 21) (N := some 27) (v := undef) (a' := ?_) spec_l10Grows.m20 rfl rfl (any_of HT_.out (by kernel_rfl)) (fun _ _ _ h => h) (Or.inr ⟨by rfl, rfl⟩) ?_ ?_; rotate_left; (focus simp only [pt, i64_w, i32_w]; rfl)
    refine pure_ (i := 22) (N := some 28) (v := undef) (a' := ?_) spec_l10Grows.m21 rfl rfl (any_of HT_.out (by kernel_rfl)) (fun _ _ _ h => h) (Or.inr ⟨by rfl, rfl⟩) ?_ ?_; rotate_left; (focus simp only [pt, i64_w, i32_w]; rfl)
    refine pure_ (i := 23) (N := some 29) (v := undef) (a' := ?_) spec_l10Grows.m22 rfl rfl (any_of HT_.out (by kernel_rfl)) (fun _ _ _ h => h) (Or.inr ⟨by rfl, rfl⟩) ?_ ?_; rotate_left; (focus simp only [pt, i64_w, i32_w]; rfl)
    refine pure_ (i := 24) (N := some 30) (v := undef) (a' := ?_) spec_l10Grows.m23 rfl rfl (any_of HT_.out (by kernel_rfl)) (fun _ _ _ h => h) (Or.inr ⟨by rfl, rfl⟩) ?_ ?_; rotate_left; (focus simp only [pt, i64_w, i32_w]; rfl)
    refine pure_ (i := 25) (N := some 31) (v := undef) (a' := ?_) spec_l10Grows.m24 rfl rfl (any_of HT_.out (by kernel_rfl)) (fun _ _ _ h => h) (Or.inr ⟨by rfl, rfl⟩) ?_ ?_; rotate_left; (focus simp only [pt, i64_w, i32_w]; rfl)
    refine pure_ (i := 26) (N := some 32) (v := undef) (a' := ?_) spec_l10Grows.m25 rfl rfl (any_of HT_.out (by kernel_rfl)) (fun _ _ _ h => h) (Or.inr ⟨by rfl, rfl⟩) ?_ ?_; rotate_left; (focus simp only [pt, i64_w, i32_w]; rfl)
    refine pure_ (i := 27) (N := some 33) (v := ?_) (a' := ?_) spec_l10Grows.m26 rfl rfl (any_of HT_.out (by kernel_rfl)) (fun _ _ _ h => h) (Or.inl ⟨by rfl, ?_⟩) ?_ ?_; rotate_left; (focus intro w'; go_simp; with_reducible rfl); rotate_left; (focus simp only [pt, i64_w, i32_w]; rfl)
    refine done_ (done_of HT_.out (by kernel_rfl)) ?_
    try go_wp2
    go_meet
    case rel => exact ⟨_, (true), vE, H', ⟨by first | omega | exact Nat.le_refl _⟩, ⟨by (with_reducible repeat (first | refine blk_drewN ?_ _ | refine blk_drew ?_ | refine blk_alloc ?_ _)); exact BK779.out⟩, ⟨by (with_reducible repeat (first | refine blk_drewN ?_ _ | refine blk_drew ?_ | refine blk_alloc ?_ _)); exact BK780.out⟩, ⟨bW⟩⟩
   ·rw [if_neg c8] at H
    have c8b0 : decide ((l1_1.length : Int) < (l0_1.length : Int)) = false := decide_eq_false c8
    have c8b1 : decide (l1_1.length < l0_1.length) = false := decide_eq_false (fun h => c8 (Int.ofNat_lt.mpr h))
    clear c8
    by_cases c10 : 0 ≤ (l0_0.length : Int)
    ·rw [if_pos c10] at H
     have c10b0 := eq_true c10
     have c10b1 : decide (0 ≤ (l0_0.length : Int)) = true := decide_eq_true c10
     clear c10
     by_cases c11 : (l0_0.length : Int) ≤ (l1_0.length : Int)
     ·rw [if_pos c11] at H
      have c11b0 := eq_true c11
      have c11b1 : decide ((l0_0.length : Int) ≤ (l1_0.length : Int)) = true := decide_eq_true c11
      clear c11
      obtain ⟨y781, hy781⟩ : ∃ y_ : List (S118), y_ = (l1_0.take ((l0_0.length : Int) : Int).toNat) := ⟨_, rfl⟩
      replace H : ((spec_l03Same.f k l0_0 y781).bind fun t785 => (spec_l10Grows.j0 k (!t785) l0_0 l0_1 l1_0 l1_1)) = some r := by first | (rw [hy781]; with_reducible exact H) | (have H2_ := (Option.bind_some _ _).symm.trans H; rw [hy781]; with_reducible exact H2_) | (have H2_ := (Option.bind_some _ _).symm.trans H; with_reducible exact H2_) | with_reducible exact H | (rw [hy781]; exact H) | exact H
      have Ny781 := Aside0.mk hy781
      clear hy781
      replace H := Option.bind_eq_some_iff.mp H
      obtain ⟨t785, A120, H⟩ := H
      replace H : (spec_l10Grows.j0 k (!t785) l0_0 l0_1 l1_0 l1_1) = some r := H
      have A12 := Aside0.mk A120
      clear A120
      have H' := Aside0.mk H
      clear H
      try go_wp2
      have n0_ := Aside0.mk (blk_drew BK779.out)
      have n1_ := Aside0.mk (blk_drew BK780.out)
      have n2_ := Aside0.mk (below_drew1 HB.out)
      clear BK779
      clear BK780
      clear HB
      have BK779 := n0_
      have BK780 := n1_
      have HB := n2_
      clear n0_ n1_ n2_
      have q14 : ((l0_0.length : Int) : Int) ≤ ((l1_0.length : Int) : Int) := odt
      obtain ⟨i014, hi014, _, hsz14, _⟩ := info_parts info118
      have hroom14 : l1_0.length ≤ c1_0 := HC1_0.out
      have hC14 : Kd.C k118 _ A1_0 l1_0.length l1_0 := HR1_0.out
      have hcut14 := cut_to (P := Try.prog) 63 118 .i64 Try.underlying63 hi014 A1_0 l1_0.length c1_0 (l0_0.length : Int) (odt) q14 hroom14
      have hr14 := Kd.C_take (m := ((l0_0.length : Int) : Int).toNat) hC14 (by omega)
      have hy14 : y781.length = ((l0_0.length : Int) : Int).toNat := (by rw [Ny781.out, List.length_take]; omega)
      rw [← Ny781.out] at hr14
      rw [← hy14] at hcut14
      have HR784 := Aside0.mk hr14
      have HC784 := Aside0.mk (show y781.length ≤ c1_0 from by omega)
      clear hr14 hC14 hroom14 hi014 hsz14
      have KY14 := Aside0.mk hy14
      clear hy14
      replace q14 := eq_true q14
      refine start_ (n := 28) (S := fun w' => w'.cell? ⟨gb780, 0, none⟩ = some (.slice A1_0 l1_0.length c1_0) ∧ w'.cell? ⟨gb780, 1, none⟩ = some (.slice A1_1 l1_1.length c1_1) ∧ w'.cell? ⟨gb779, 0, none⟩ = some (.slice A0_0 l0_0.length c0_0) ∧ w'.cell? ⟨gb779, 1, none⟩ = some (.slice A0_1 l0_1.length c0_1)) (ds := []) spec_l10Grows.m0 (by kernel_rfl) rfl rfl ⟨(blk_cell BK780.out 0).trans rfl, (blk_cell BK780.out 1).trans rfl, (blk_cell BK779.out 0).trans rfl, (blk_cell BK779.out 1).trans rfl⟩ (fun hHeld => ?_); refine with_tabW spec_l10Grows.tab1 spec_l10Grows.bits1 (fun HT_ HW_ => ?_)
      generalize w5.drew = w13 at BK779 BK780 HB HR784 hHeld ⊢
      refine pure_ (i := 0) (N := some 6) (v := ?_) (a' := ?_) spec_l10Grows.m1 rfl rfl (any_of HT_.out (by kernel_rfl)) (fun _ _ _ h => h) (Or.inl ⟨by rfl, ?_⟩) ?_ ?_; rotate_left; (focus intro w'; go_simp; with_reducible rfl); rotate_left; (focus simp only [pt, i64_w, i32_w]; rfl)
      refine pure_ (i := 3) (N := some 9) (v := ?_) (a' := ?_) spec_l10Grows.m2 rfl rfl (any_of HT_.out (by kernel_rfl)) (fun _ _ _ h => h) (Or.inl ⟨by rfl, ?_⟩) ?_ ?_; rotate_left; (focus intro w'; go_simp; with_reducible rfl); rotate_left; (focus simp only [pt, i64_w, i32_w]; rfl)
      refine take_ (i := 1) (N := some 7) (v := ?_) (a' := ?_) spec_l10Grows.m3 rfl rfl (take_ofW HT_.out HW_.out (by kernel_rfl)) (fun _ _ _ h => h) (Or.inl ⟨by rfl, ?_⟩) hHeld ?_ ?_; rotate_left; (focus rintro w' ⟨s0, s1, s2, s3⟩; go_simp; with_reducible rfl); rotate_left; (focus simp only [pt, i64_w, i32_w]; rfl)
      refine pure_ (i := 2) (N := some 8) (v := ?_) (a' := ?_) spec_l10Grows.m4 rfl rfl (any_of HT_.out (by kernel_rfl)) (fun _ _ _ h => h) (Or.inl ⟨by rfl, ?_⟩) ?_ ?_; rotate_left; (focus intro w'; go_simp; with_reducible rfl); rotate_left; (focus simp only [pt, i64_w, i32_w]; rfl)
      refine take_ (i := 4) (N := some 10) (v := ?_) (a' := ?_) spec_l10Grows.m5 rfl rfl (take_ofW HT_.out HW_.out (by kernel_rfl)) (fun _ _ _ h => h) (Or.inl ⟨by rfl, ?_⟩) hHeld ?_ ?_; rotate_left; (focus rintro w' ⟨s0, s1, s2, s3⟩; go_simp; with_reducible rfl); rotate_left; (focus simp only [pt, i64_w, i32_w]; rfl)
      refine pure_ (i := 5) (N := some 11) (v := ?_) (a' := ?_) spec_l10Grows.m6 rfl rfl (any_of HT_.out (by kernel_rfl)) (fun _ _ _ h => h) (Or.inl ⟨by rfl, ?_⟩) ?_ ?_; rotate_left; (focus intro w'; go_simp; with_reducible rfl); rotate_left; (focus simp only [pt, i64_w, i32_w]; rfl)
      refine pure_ (i := 6) (N := some 12) (v := ?_) (a' := ?_) spec_l10Grows.m7 rfl rfl (any_of HT_.out (by kernel_rfl)) (fun _ _ _ h => h) (Or.inl ⟨by rfl, ?_⟩) ?_ ?_; rotate_left; (focus intro w'; go_simp; with_reducible rfl); rotate_left; (focus simp only [pt, i64_w, i32_w]; rfl)
      refine pure_ (i := 7) (N := some 13) (v := ?_) (a' := ?_) spec_l10Grows.m8 rfl rfl (any_of HT_.out (by kernel_rfl)) (fun _ _ _ h => h) (Or.inl ⟨by rfl, ?_⟩) ?_ ?_; rotate_left; (focus intro w'; go_simp; with_reducible rfl); rotate_left; (focus simp only [pt, i64_w, i32_w]; rfl)
      refine pure_ (i := 8) (N := some 14) (v := ?_) (a' := ?_) spec_l10Grows.m9 rfl rfl (any_of HT_.out (by kernel_rfl)) (fun _ _ _ h => h) (Or.inl ⟨by rfl, ?_⟩) ?_ ?_; rotate_left; (focus intro w'; go_simp; with_reducible rfl); rotate_left; (focus simp only [pt, i64_w, i32_w]; rfl)
      refine pure_ (i := 11) (N := some 17) (v := ?_) (a' := ?_) spec_l10Grows.m27 rfl rfl (any_of HT_.out (by kernel_rfl)) (fun _ _ _ h => h) (Or.inl ⟨by rfl, ?_⟩) ?_ ?_; rotate_left; (focus intro w'; go_simp; with_reducible rfl); rotate_left; (focus simp only [pt, i64_w, i32_w]; rfl)
      refine take_ (i := 9) (N := some 15) (v := ?_) (a' := ?_) spec_l10Grows.m28 rfl rfl (take_ofW HT_.out HW_.out (by kernel_rfl)) (fun _ _ _ h => h) (Or.inl ⟨by rfl, ?_⟩) hHeld ?_ ?_; rotate_left; (focus rintro w' ⟨s0, s1, s2, s3⟩; go_simp; with_reducible rfl); rotate_left; (focus simp only [pt, i64_w, i32_w]; rfl)
      refine pure_ (i := 10) (N := some 16) (v := ?_) (a' := ?_) spec_l10Grows.m10 rfl rfl (any_of HT_.out (by kernel_rfl)) (fun _ _ _ h => h) (Or.inl ⟨by rfl, ?_⟩) ?_ ?_; rotate_left; (focus intro w'; go_simp; with_reducible rfl); rotate_left; (focus simp only [pt, i64_w, i32_w]; rfl)
      refine take_ (i := 12) (N := some 18) (v := ?_) (a' := ?_) spec_l10Grows.m11 rfl rfl (take_ofW HT_.out HW_.out (by kernel_rfl)) (fun _ _ _ h => h) (Or.inl ⟨by rfl, ?_⟩) hHeld ?_ ?_; rotate_left; (focus rintro w' ⟨s0, s1, s2, s3⟩; go_simp; with_reducible rfl); rotate_left; (focus simp only [pt, i64_w, i32_w]; rfl)
      refine pure_ (i := 13) (N := some 19) (v := ?_) (a' := ?_) spec_l10Grows.m12 rfl rfl (any_of HT_.out (by kernel_rfl)) (fun _ _ _ h => h) (Or.inl ⟨by rfl, ?_⟩) ?_ ?_; rotate_left; (focus intro w'; go_simp; with_reducible rfl); rotate_left; (focus simp only [pt, i64_w, i32_w]; rfl)
      refine pure_ (i := 14) (N := some 20) (v := ?_) (a' := ?_) spec_l10Grows.m13 rfl rfl (any_of HT_.out (by kernel_rfl)) (fun _ _ _ h => h) (Or.inl ⟨by rfl, ?_⟩) ?_ ?_; rotate_left; (focus intro w'; go_simp; with_reducible rfl); rotate_left; (focus simp only [pt, i64_w, i32_w]; rfl)
      refine pure_ (i := 15) (N := some 21) (v := ?_) (a' := ?_) spec_l10Grows.m14 rfl rfl (any_of HT_.out (by kernel_rfl)) (fun _ _ _ h => h) (Or.inl ⟨by rfl, ?_⟩) ?_ ?_; rotate_left; (focus intro w'; go_simp; with_reducible rfl); rotate_left; (focus simp only [pt, i64_w, i32_w]; rfl)
      refine pure_ (i := 16) (N := some 22) (v := ?_) (a' := ?_) spec_l10Grows.m15 rfl rfl (any_of HT_.out (by kernel_rfl)) (fun _ _ _ h => h) (Or.inl ⟨by rfl, ?_⟩) ?_ ?_; rotate_left; (focus intro w'; go_simp; with_reducible rfl); rotate_left; (focus simp only [pt, i64_w, i32_w]; rfl)
      refine pure_ (i := 17) (N := some 23) (v := ?_) (a' := ?_) spec_l10Grows.m16 rfl rfl (any_of HT_.out (by kernel_rfl)) (fun _ _ _ h => h) (Or.inl ⟨by rfl, ?_⟩) ?_ ?_; rotate_left; (focus intro w'; go_simp; with_reducible rfl); rotate_left; (focus simp only [pt, i64_w, i32_w]; rfl)
      refine pure_ (i := 19) (N := some 25) (v := ?_) (a' := ?_) #[true, true, true, true, true, true, true, true, true, true, true, true, true, true, true, true, true, true, false, true, false, false, false, false, false, false, false, false] rfl rfl (any_of HT_.out (by kernel_rfl)) (fun _ _ _ h => h) (Or.inl ⟨by rfl, ?_⟩) ?_ ?_; rotate_left; (focus intro w'; go_simp; with_reducible rfl); rotate_left; (focus simp only [pt, i64_w, i32_w]; rfl)
      refine pure_ (i := 21) (N := some 27) (v := ?_) (a' := ?_) #[true, true, true, true, true, true, true, true, true, true, true, true, true, true, true, true, true, true, false, true, false, true, false, false, false, false, false, false] rfl rfl (any_of HT_.out (by kernel_rfl)) (fun _ _ _ h => h) (Or.inl ⟨by rfl, ?_⟩) ?_ ?_; rotate_left; (focus intro w'; go_simp; with_reducible rfl); rotate_left; (focus simp only [pt, i64_w, i32_w]; rfl)
      refine take_ (i := 18) (N := some 24) (v := ?_) (a' := ?_) #[true, true, true, true, true, true, true, true, true, true, true, true, true, true, true, true, true, true, true, true, false, true, false, false, false, false, false, false] rfl rfl (take_ofW HT_.out HW_.out (by kernel_rfl)) (fun _ _ _ h => h) (Or.inl ⟨by rfl, ?_⟩) hHeld ?_ ?_; rotate_left; (focus rintro w' ⟨s0, s1, s2, s3⟩; go_simp; with_reducible rfl); rotate_left; (focus simp only [pt, i64_w, i32_w]; rfl)
      refine take_ (i := 20) (N := some 26) (v := ?_) (a' := ?_) spec_l10Grows.m20 rfl rfl (take_ofW HT_.out HW_.out (by kernel_rfl)) (fun _ _ _ h => h) (Or.inl ⟨by rfl, ?_⟩) hHeld ?_ ?_; rotate_left; (focus rintro w' ⟨s0, s1, s2, s3⟩; go_simp; with_reducible rfl); rotate_left; (focus simp only [pt, i64_w, i32_w]; rfl)
      refine take_ (i := 22) (N := some 28) (v := ?_) (a' := ?_) spec_l10Grows.m21 rfl rfl (take_ofW HT_.out HW_.out (by kernel_rfl)) (fun _ _ _ h => h) (Or.inl ⟨by rfl, ?_⟩) hHeld ?_ ?_; rotate_left; (focus rintro w' ⟨s0, s1, s2, s3⟩; go_simp; with_reducible rfl); rotate_left; (focus simp only [pt, i64_w, i32_w]; rfl)
      refine pure_ (i := 23) (N := some 29) (v := ?_) (a' := ?_) spec_l10Grows.m22 rfl rfl (any_of HT_.out (by kernel_rfl)) (fun _ _ _ h => h) (Or.inl ⟨by rfl, ?_⟩) ?_ ?_; rotate_left; (focus intro w'; go_simp; with_reducible rfl); rotate_left; (focus simp only [pt, i64_w, i32_w]; rfl)
      refine pure_ (i := 24) (N := some 30) (v := ?_) (a' := ?_) spec_l10Grows.m23 rfl rfl (any_of HT_.out (by kernel_rfl)) (fun _ _ _ h => h) (Or.inl ⟨by rfl, ?_⟩) ?_ ?_; rotate_left; (focus intro w'; go_simp; with_reducible rfl); rotate_left; (focus simp only [pt, i64_w, i32_w]; rfl)
      refine one_ (i := 25) (N := some 31) spec_l10Grows.m24 rfl rfl (one_of HT_.out (by kernel_rfl)) (by decide) (fun K hK => ?_)
      refine goes_ Try.func189 (by kernel_rfl) rfl #[.slice A0_0 l0_0.length c0_0, .slice A1_0 y781.length c1_0] (by rfl) rfl rfl gA ?_
      with_reducible refine (spec_l03Same.calls k _ _ l0_0 _ _ y781 t785 _ ?side1 ?side2 ?side3 ?side4 A12.out).mono ?_
      (case side1 => exact cB HR0_0)
      (case side2 => exact HC0_0.out)
      (case side3 => exact cB HR784)
      (case side4 => exact HC784.out)
      rintro e w15 ⟨rfl, hb⟩
      refine ⟨_, rfl, ?_⟩
      have n0_ := Aside0.mk (kb BK779 hb)
      have n1_ := Aside0.mk (kb BK780 hb)
      have n2_ := Aside0.mk (below_step (w := w) bW hb)
      clear BK779
      clear BK780
      clear HB
      have BK779 := n0_
      have BK780 := n1_
      have HB := n2_
      clear n0_ n1_ n2_
      (try clear hb)
      (try clear hb2)
      (try clear hk)
      (try clear hi)
      refine hK.out _ _ ⟨(blk_cell BK780.out 0).trans rfl, (blk_cell BK780.out 1).trans rfl, (blk_cell BK779.out 0).trans rfl, (blk_cell BK779.out 1).trans rfl⟩ (fun hHeld => ?_)
      clear hK K
      refine norm_ (a' := ?_) ?_ ?_
      rotate_left
      ·show Act.put _ (some 31) _ = _
       simp only [Act.put, List.setIfInBounds_toArray, List.set_cons_zero, List.set_cons_succ, i64_w, i32_w]
       rfl
      refine pure_ (i := 26) (N := some 32) (v := ?_) (a' := ?_) spec_l10Grows.m25 rfl rfl (any_of HT_.out (by kernel_rfl)) (fun _ _ _ h => h) (Or.inl ⟨by rfl, ?_⟩) ?_ ?_; rotate_left; (focus intro w'; go_simp; with_reducible rfl); rotate_left; (focus simp only [pt, i64_w, i32_w]; rfl)
      refine pure_ (i := 27) (N := some 33) (v := ?_) (a' := ?_) spec_l10Grows.m26 rfl rfl (any_of HT_.out (by kernel_rfl)) (fun _ _ _ h => h) (Or.inl ⟨by rfl, ?_⟩) ?_ ?_; rotate_left; (focus intro w'; go_simp; with_reducible rfl); rotate_left; (focus simp only [pt, i64_w, i32_w]; rfl)
      refine done_ (done_of HT_.out (by kernel_rfl)) ?_
      try go_wp2
      go_meet
      case rel => exact ⟨_, (!t785), vE, H', ⟨by first | omega | exact Nat.le_refl _⟩, ⟨by (with_reducible repeat (first | refine blk_drewN ?_ _ | refine blk_drew ?_ | refine blk_alloc ?_ _)); exact BK779.out⟩, ⟨by (with_reducible repeat (first | refine blk_drewN ?_ _ | refine blk_drew ?_ | refine blk_alloc ?_ _)); exact BK780.out⟩, ⟨bW⟩⟩
     ·rw [if_neg c11] at H
      exact absurd H (by simp)
    ·rw [if_neg c10] at H
     exact absurd H (by simp)
 case rest =>
  clear HC3
  try clear c1
  try clear q1
  try clear p2
  try clear c6
  try clear c6b0
  try clear c6b1
  try clear c8
  try clear c8b0
  try clear c8b1
  try clear c10
  try clear c10b0
  try clear c10b1
  try clear c11
  try clear c11b0
  try clear c11b1
  try clear q14
  try clear q14
  obtain ⟨kq, x33_2, rfl, HA, HJ2, BK779, BK780, HB⟩ := hcut
  cases kq with
  | zero => exact absurd HA.out (by simp [spec_l10Grows.j0])
  | succ kj2 =>
   have H := HA.out
   clear HA
   simp only [spec_l10Grows.j0] at H
   by_cases c16 : x33_2 = true
   ·subst c16
    have H1 : (some false) = some r := by rw [if_pos rfl] at H; exact H
    clear H
    have H := H1
    clear H1
    obtain rfl := Option.some.inj H
    go_wp2
    go_ret
    exact ⟨rE, bW⟩
   ·replace c16 := Bool.eq_false_iff.mpr c16
    subst c16
    have H1 : (spec_l10Grows.l0 kj2 0 l0_0 l0_1 l1_0 l1_1) = some r := by rw [if_neg (show ¬ (false = true) by decide)] at H; exact H
    clear H
    have H := H1
    clear H1
    have H' := Aside0.mk H
    clear H
    go_wp2
    go_loopg [5] kj2 (fun kq v5 w' => ∃ (x5_2 : Int), v5 = .int .i64 x5_2 ∧ Aside0 (spec_l10Grows.l0 kq x5_2 l0_0 l0_1 l1_0 l1_1 = some r) ∧ Aside0 (kq ≤ kj2) ∧ Aside0 (w'.heap[gb779]? = some (.cells #[(.slice A0_0 l0_0.length c0_0), (.slice A0_1 l0_1.length c0_1)] 66 (0, 0))) ∧ Aside0 (w'.heap[gb780]? = some (.cells #[(.slice A1_0 l1_0.length c1_0), (.slice A1_1 l1_1.length c1_1)] 66 (0, 0))) ∧ Aside0 (Below w.heap.size w w'))
    case atStart => exact ⟨(0), vE, H', ⟨Nat.le_refl _⟩, ⟨by (with_reducible repeat (first | refine blk_drewN ?_ _ | refine blk_drew ?_ | refine blk_alloc ?_ _)); exact BK779.out⟩, ⟨by (with_reducible repeat (first | refine blk_drewN ?_ _ | refine blk_drew ?_ | refine blk_alloc ?_ _)); exact BK780.out⟩, ⟨bW⟩⟩
    case round =>
     clear H'
     try clear c1
     try clear q1
     try clear p2
     try clear c6
     try clear c6b0
     try clear c6b1
     try clear c8
     try clear c8b0
     try clear c8b1
     try clear c10
     try clear c10b0
     try clear c10b1
     try clear c11
     try clear c11b0
     try clear c11b1
     try clear q14
     try clear c16
     try clear p2
     try clear q1
     try clear q14
     obtain ⟨x5_2, rfl, HA, HK2, BK779, BK780, HB⟩ := hrel
     cases gk with
     | zero => exact absurd HA.out (by simp [spec_l10Grows.l0])
     | succ k2 =>
      have H := HA.out
      clear HA
      simp only [spec_l10Grows.l0] at H
      by_cases c17 : x5_2 < (l0_1.length : Int)
      ·rw [if_pos c17] at H
       have c17b0 : decide (x5_2 < (l0_1.length : Int)) = true := decide_eq_true c17
       clear c17
       by_cases c18 : 0 ≤ x5_2
       ·rw [if_pos c18] at H
        have c18b0 : decide (0 ≤ x5_2) = true := decide_eq_true c18
        clear c18
        by_cases c19 : x5_2 < (l1_1.length : Int)
        ·rw [if_pos c19] at H
         have c19b0 : decide (x5_2 < (l1_1.length : Int)) = true := decide_eq_true c19
         clear c19
         by_cases c20 : ((rd_T178 l1_1 x5_2).f0).toList = ((rd_T178 l0_1 x5_2).f0).toList
         ·rw [if_pos c20] at H
          have c20b0 : (((rd_T178 l1_1 x5_2).f0).toList == ((rd_T178 l0_1 x5_2).f0).toList) = true := beq_iff_eq.mpr c20
          have c20b1 : (((rd_T178 l1_1 x5_2).f0).toList != ((rd_T178 l0_1 x5_2).f0).toList) = false := bne_eq_false_iff_eq.mpr c20
          clear c20
          by_cases c21 : ((rd_T178 l1_1 x5_2).f2) < ((rd_T178 l0_1 x5_2).f2)
          ·rw [if_pos c21] at H
           have c21b0 : decide (((rd_T178 l1_1 x5_2).f2) < ((rd_T178 l0_1 x5_2).f2)) = true := decide_eq_true c21
           clear c21
           obtain rfl := Option.some.inj H
           have hnb22 := NB779_780.out
           have hnc22 := NB780_779.out
           have hcz23_0 : wr.cell? ⟨gb779, 0, none⟩ = some (.slice A0_0 l0_0.length c0_0) := (blk_cell BK779.out 0).trans rfl
           have hcz23_1 : wr.cell? ⟨gb779, 1, none⟩ = some (.slice A0_1 l0_1.length c0_1) := (blk_cell BK779.out 1).trans rfl
           have hfz23_0 := fz1 BK779
           have hfz23_1 := blk_frozen BK779.out 1
           try go_wp2
           have n0_ := Aside0.mk (blk_drew BK779.out)
           have n1_ := Aside0.mk (blk_drew BK780.out)
           have n2_ := Aside0.mk (below_drew1 HB.out)
           clear BK779
           clear BK780
           clear HB
           have BK779 := n0_
           have BK780 := n1_
           have HB := n2_
           clear n0_ n1_ n2_
           have p786 : 0 ≤ (x5_2 : Int) := odt
           have q786 : x5_2 < (l1_1.length : Int) := odt
           obtain ⟨ad786, e786, hx786_0, hx786_1, hx786_2, hx786_3⟩ := at_T178 HR1_1.out x5_2 p786 q786
           have hw786_3 := hx786_3
           have hw786_2 := hx786_2
           have hw786_1 := hx786_1
           have hw786_0 := hx786_0
           cases e786
           replace hx786_0 := (HB.out.cell (World.block_lt_of_cell? w _ hx786_0)).trans hx786_0
           replace hx786_1 := (HB.out.cell (World.block_lt_of_cell? w _ hx786_1)).trans hx786_1
           replace hx786_2 := (HB.out.cell (World.block_lt_of_cell? w _ hx786_2)).trans hx786_2
           replace hx786_3 := (HB.out.cell (World.block_lt_of_cell? w _ hx786_3)).trans hx786_3
           replace p786 := eq_true p786
           replace q786 := eq_true q786
           have p787 : 0 ≤ (x5_2 : Int) := odt
           have q787 : x5_2 < (l0_1.length : Int) := odt
           obtain ⟨ad787, e787, hx787_0, hx787_1, hx787_2, hx787_3⟩ := at_T178 HR0_1.out x5_2 p787 q787
           have hw787_3 := hx787_3
           have hw787_2 := hx787_2
           have hw787_1 := hx787_1
           have hw787_0 := hx787_0
           cases e787
           replace hx787_0 := (HB.out.cell (World.block_lt_of_cell? w _ hx787_0)).trans hx787_0
           replace hx787_1 := (HB.out.cell (World.block_lt_of_cell? w _ hx787_1)).trans hx787_1
           replace hx787_2 := (HB.out.cell (World.block_lt_of_cell? w _ hx787_2)).trans hx787_2
           replace hx787_3 := (HB.out.cell (World.block_lt_of_cell? w _ hx787_3)).trans hx787_3
           replace p787 := eq_true p787
           replace q787 := eq_true q787
           have p788 : 0 ≤ (x5_2 : Int) := odt
           have q788 : x5_2 < (l1_1.length : Int) := odt
           obtain ⟨ad788, e788, hx788_0, hx788_1, hx788_2, hx788_3⟩ := at_T178 HR1_1.out x5_2 p788 q788
           have hw788_3 := hx788_3
           have hw788_2 := hx788_2
           have hw788_1 := hx788_1
           have hw788_0 := hx788_0
           obtain rfl : ad786 = ad788 := (by injection e788)
           replace hx788_0 := (HB.out.cell (World.block_lt_of_cell? w _ hx788_0)).trans hx788_0
           replace hx788_1 := (HB.out.cell (World.block_lt_of_cell? w _ hx788_1)).trans hx788_1
           replace hx788_2 := (HB.out.cell (World.block_lt_of_cell? w _ hx788_2)).trans hx788_2
           replace hx788_3 := (HB.out.cell (World.block_lt_of_cell? w _ hx788_3)).trans hx788_3
           replace p788 := eq_true p788
           replace q788 := eq_true q788
           have p789 : 0 ≤ (x5_2 : Int) := odt
           have q789 : x5_2 < (l0_1.length : Int) := odt
           obtain ⟨ad789, e789, hx789_0, hx789_1, hx789_2, hx789_3⟩ := at_T178 HR0_1.out x5_2 p789 q789
           have hw789_3 := hx789_3
           have hw789_2 := hx789_2
           have hw789_1 := hx789_1
           have hw789_0 := hx789_0
           obtain rfl : ad787 = ad789 := (by injection e789)
           replace hx789_0 := (HB.out.cell (World.block_lt_of_cell? w _ hx789_0)).trans hx789_0
           replace hx789_1 := (HB.out.cell (World.block_lt_of_cell? w _ hx789_1)).trans hx789_1
           replace hx789_2 := (HB.out.cell (World.block_lt_of_cell? w _ hx789_2)).trans hx789_2
           replace hx789_3 := (HB.out.cell (World.block_lt_of_cell? w _ hx789_3)).trans hx789_3
           replace p789 := eq_true p789
           replace q789 := eq_true q789
           refine start_ (n := 56) (S := fun w' => w'.cell? ⟨gb780, 0, none⟩ = some (.slice A1_0 l1_0.length c1_0) ∧ w'.cell? ⟨gb780, 1, none⟩ = some (.slice (some ad786) l1_1.length c1_1) ∧ w'.cell? ⟨gb779, 0, none⟩ = some (.slice A0_0 l0_0.length c0_0) ∧ w'.cell? ⟨gb779, 1, none⟩ = some (.slice (some ad787) l0_1.length c0_1) ∧ w'.cell? (ad786.add ((x5_2).toNat * 4)) = some (.string ((rd_T178 l1_1 x5_2).f0)) ∧ w'.cell? ⟨(ad786.add ((x5_2).toNat * 4)).block, (ad786.add ((x5_2).toNat * 4)).off + 1, none⟩ = some (.int .i64 ((rd_T178 l1_1 x5_2).f1)) ∧ w'.cell? ⟨(ad786.add ((x5_2).toNat * 4)).block, (ad786.add ((x5_2).toNat * 4)).off + 2, none⟩ = some (.int .i64 ((rd_T178 l1_1 x5_2).f2)) ∧ w'.cell? ⟨(ad786.add ((x5_2).toNat * 4)).block, (ad786.add ((x5_2).toNat * 4)).off + 3, none⟩ = some (.bool ((rd_T178 l1_1 x5_2).f3)) ∧ w'.cell? (ad787.add ((x5_2).toNat * 4)) = some (.string ((rd_T178 l0_1 x5_2).f0)) ∧ w'.cell? ⟨(ad787.add ((x5_2).toNat * 4)).block, (ad787.add ((x5_2).toNat * 4)).off + 1, none⟩ = some (.int .i64 ((rd_T178 l0_1 x5_2).f1)) ∧ w'.cell? ⟨(ad787.add ((x5_2).toNat * 4)).block, (ad787.add ((x5_2).toNat * 4)).off + 2, none⟩ = some (.int .i64 ((rd_T178 l0_1 x5_2).f2)) ∧ w'.cell? ⟨(ad787.add ((x5_2).toNat * 4)).block, (ad787.add ((x5_2).toNat * 4)).off + 3, none⟩ = some (.bool ((rd_T178 l0_1 x5_2).f3)) ∧ w'.cell? (ad786.add ((x5_2).toNat * 4)) = some (.string ((rd_T178 l1_1 x5_2).f0)) ∧ w'.cell? ⟨(ad786.add ((x5_2).toNat * 4)).block, (ad786.add ((x5_2).toNat * 4)).off + 1, none⟩ = some (.int .i64 ((rd_T178 l1_1 x5_2).f1)) ∧ w'.cell? ⟨(ad786.add ((x5_2).toNat * 4)).block, (ad786.add ((x5_2).toNat * 4)).off + 2, none⟩ = some (.int .i64 ((rd_T178 l1_1 x5_2).f2)) ∧ w'.cell? ⟨(ad786.add ((x5_2).toNat * 4)).block, (ad786.add ((x5_2).toNat * 4)).off + 3, none⟩ = some (.bool ((rd_T178 l1_1 x5_2).f3)) ∧ w'.cell? (ad787.add ((x5_2).toNat * 4)) = some (.string ((rd_T178 l0_1 x5_2).f0)) ∧ w'.cell? ⟨(ad787.add ((x5_2).toNat * 4)).block, (ad787.add ((x5_2).toNat * 4)).off + 1, none⟩ = some (.int .i64 ((rd_T178 l0_1 x5_2).f1)) ∧ w'.cell? ⟨(ad787.add ((x5_2).toNat * 4)).block, (ad787.add ((x5_2).toNat * 4)).off + 2, none⟩ = some (.int .i64 ((rd_T178 l0_1 x5_2).f2)) ∧ w'.cell? ⟨(ad787.add ((x5_2).toNat * 4)).block, (ad787.add ((x5_2).toNat * 4)).off + 3, none⟩ = some (.bool ((rd_T178 l0_1 x5_2).f3))) (ds := []) spec_l10Grows.m29 (by kernel_rfl) rfl rfl ⟨(blk_cell BK780.out 0).trans rfl, (blk_cell BK780.out 1).trans rfl, (blk_cell BK779.out 0).trans rfl, (blk_cell BK779.out 1).trans rfl, ((HB.out.cell (World.block_lt_of_cell? w _ hw786_0)).trans hw786_0), ((HB.out.cell (World.block_lt_of_cell? w _ hw786_1)).trans hw786_1), ((HB.out.cell (World.block_lt_of_cell? w _ hw786_2)).trans hw786_2), ((HB.out.cell (World.block_lt_of_cell? w _ hw786_3)).trans hw786_3), ((HB.out.cell (World.block_lt_of_cell? w _ hw787_0)).trans hw787_0), ((HB.out.cell (World.block_lt_of_cell? w _ hw787_1)).trans hw787_1), ((HB.out.cell (World.block_lt_of_cell? w _ hw787_2)).trans hw787_2), ((HB.out.cell (World.block_lt_of_cell? w _ hw787_3)).trans hw787_3), ((HB.out.cell (World.block_lt_of_cell? w _ hw788_0)).trans hw788_0), ((HB.out.cell (World.block_lt_of_cell? w _ hw788_1)).trans hw788_1), ((HB.out.cell (World.block_lt_of_cell? w _ hw788_2)).trans hw788_2), ((HB.out.cell (World.block_lt_of_cell? w _ hw788_3)).trans hw788_3), ((HB.out.cell (World.block_lt_of_cell? w _ hw789_0)).trans hw789_0), ((HB.out.cell (World.block_lt_of_cell? w _ hw789_1)).trans hw789_1), ((HB.out.cell (World.block_lt_of_cell? w _ hw789_2)).trans hw789_2), ((HB.out.cell (World.block_lt_of_cell? w _ hw789_3)).trans hw789_3)⟩ (fun hHeld => ?_); refine with_tabW spec_l10Grows.tab6 spec_l10Grows.bits6 (fun HT_ HW_ => ?_)
           generalize wr.drew = w24 at BK779 BK780 HB hx786_0 hx786_1 hx786_2 hx786_3 hx787_0 hx787_1 hx787_2 hx787_3 hx788_0 hx788_1 hx788_2 hx788_3 hx789_0 hx789_1 hx789_2 hx789_3 hHeld ⊢
           refine pure_ (i := 0) (N := some 41) (v := ?_) (a' := ?_) spec_l10Grows.m30 rfl rfl (any_of HT_.out (by kernel_rfl)) (fun _ _ _ h => h) (Or.inl ⟨by rfl, ?_⟩) ?_ ?_; rotate_left; (focus intro w'; go_simp; with_reducible rfl); rotate_left; (focus simp only [pt, i64_w, i32_w]; rfl)
           refine pure_ (i := 2) (N := some 43) (v := ?_) (a' := ?_) spec_l10Grows.m31 rfl rfl (any_of HT_.out (by kernel_rfl)) (fun _ _ _ h => h) (Or.inl ⟨by rfl, ?_⟩) ?_ ?_; rotate_left; (focus intro w'; go_simp; with_reducible rfl); rotate_left; (focus simp only [pt, i64_w, i32_w]; rfl)
           refine pure_ (i := 6) (N := some 47) (v := ?_) (a' := ?_) spec_l10Grows.m32 rfl rfl (any_of HT_.out (by kernel_rfl)) (fun _ _ _ h => h) (Or.inl ⟨by rfl, ?_⟩) ?_ ?_; rotate_left; (focus intro w'; go_simp; with_reducible rfl); rotate_left; (focus simp only [pt, i64_w, i32_w]; rfl)
           refine pure_ (i := 8) (N := some 49) (v := ?_) (a' := ?_) spec_l10Grows.m33 rfl rfl (any_of HT_.out (by kernel_rfl)) (fun _ _ _ h => h) (Or.inl ⟨by rfl, ?_⟩) ?_ ?_; rotate_left; (focus intro w'; go_simp; with_reducible rfl); rotate_left; (focus simp only [pt, i64_w, i32_w]; rfl)
           refine take_ (i := 1) (N := some 42) (v := ?_) (a' := ?_) spec_l10Grows.m34 rfl rfl (take_ofW HT_.out HW_.out (by kernel_rfl)) (fun _ _ _ h => h) (Or.inl ⟨by rfl, ?_⟩) hHeld ?_ ?_; rotate_left; (focus rintro w' ⟨s0, s1, s2, s3, s4, s5, s6, s7, s8, s9, s10, s11, s12, s13, s14, s15, s16, s17, s18, s19⟩; go_simp; with_reducible rfl); rotate_left; (focus simp only [pt, i64_w, i32_w]; rfl)
           refine pure_ (i := 3) (N := some 44) (v := ?_) (a' := ?_) spec_l10Grows.m35 rfl rfl (any_of HT_.out (by kernel_rfl)) (fun _ _ _ h => h) (Or.inl ⟨by rfl, ?_⟩) ?_ ?_; rotate_left; (focus intro w'; go_simp; with_reducible rfl); rotate_left; (focus simp only [pt, i64_w, i32_w]; rfl)
           refine pure_ (i := 4) (N := some 45) (v := ?_) (a' := ?_) spec_l10Grows.m36 rfl rfl (any_of HT_.out (by kernel_rfl)) (fun _ _ _ h => h) (Or.inl ⟨by rfl, ?_⟩) ?_ ?_; rotate_left; (focus intro w'; go_simp; with_reducible rfl); rotate_left; (focus simp only [pt, i64_w, i32_w]; rfl)
           refine take_ (i := 5) (N := some 46) (v := ?_) (a' := ?_) spec_l10Grows.m37 rfl rfl (take_ofW HT_.out HW_.out (by kernel_rfl)) (fun _ _ _ h => h) (Or.inl ⟨by rfl, ?_⟩) hHeld ?_ ?_; rotate_left; (focus rintro w' ⟨s0, s1, s2, s3, s4, s5, s6, s7, s8, s9, s10, s11, s12, s13, s14, s15, s16, s17, s18, s19⟩; go_simp; with_reducible rfl); rotate_left; (focus simp only [pt, i64_w, i32_w]; rfl)
           refine take_ (i := 7) (N := some 48) (v := ?_) (a' := ?_) spec_l10Grows.m38 rfl rfl (take_ofW HT_.out HW_.out (by kernel_rfl)) (fun _ _ _ h => h) (Or.inl ⟨by rfl, ?_⟩) hHeld ?_ ?_; rotate_left; (focus rintro w' ⟨s0, s1, s2, s3, s4, s5, s6, s7, s8, s9, s10, s11, s12, s13, s14, s15, s16, s17, s18, s19⟩; go_simp; with_reducible rfl); rotate_left; (focus simp only [pt, i64_w, i32_w]; rfl)
           refine pure_ (i := 9) (N := some 50) (v := ?_) (a' := ?_) spec_l10Grows.m39 rfl rfl (any_of HT_.out (by kernel_rfl)) (fun _ _ _ h => h) (Or.inl ⟨by rfl, ?_⟩) ?_ ?_; rotate_left; (focus intro w'; go_simp; with_reducible rfl); rotate_left; (focus simp only [pt, i64_w, i32_w]; rfl)
           refine pure_ (i := 10) (N := some 51) (v := ?_) (a' := ?_) spec_l10Grows.m40 rfl rfl (any_of HT_.out (by kernel_rfl)) (fun _ _ _ h => h) (Or.inl ⟨by rfl, ?_⟩) ?_ ?_; rotate_left; (focus intro w'; go_simp; with_reducible rfl); rotate_left; (focus simp only [pt, i64_w, i32_w]; rfl)
           refine take_ (i := 11) (N := some 52) (v := ?_) (a' := ?_) spec_l10Grows.m41 rfl rfl (take_ofW HT_.out HW_.out (by kernel_rfl)) (fun _ _ _ h => h) (Or.inl ⟨by rfl, ?_⟩) hHeld ?_ ?_; rotate_left; (focus rintro w' ⟨s0, s1, s2, s3, s4, s5, s6, s7, s8, s9, s10, s11, s12, s13, s14, s15, s16, s17, s18, s19⟩; go_simp; with_reducible rfl); rotate_left; (focus simp only [pt, i64_w, i32_w]; rfl)
           refine pure_ (i := 12) (N := some 53) (v := ?_) (a' := ?_) spec_l10Grows.m42 rfl rfl (any_of HT_.out (by kernel_rfl)) (fun _ _ _ h => h) (Or.inl ⟨by rfl, ?_⟩) ?_ ?_; rotate_left; (focus intro w'; go_simp; with_reducible rfl); rotate_left; (focus simp only [pt, i64_w, i32_w]; rfl)
           refine pure_ (i := 13) (N := some 54) (v := ?_) (a' := ?_) spec_l10Grows.m43 rfl rfl (any_of HT_.out (by kernel_rfl)) (fun _ _ _ h => h) (Or.inl ⟨by rfl, ?_⟩) ?_ ?_; rotate_left; (focus intro w'; go_simp; with_reducible rfl); rotate_left; (focus simp only [pt, i64_w, i32_w]; rfl)
           refine pure_ (i := 14) (N := some 55) (v := ?_) (a' := ?_) spec_l10Grows.m44 rfl rfl (any_of HT_.out (by kernel_rfl)) (fun _ _ _ h => h) (Or.inl ⟨by rfl, ?_⟩) ?_ ?_; rotate_left; (focus intro w'; go_simp; with_reducible rfl); rotate_left; (focus simp only [pt, i64_w, i32_w]; rfl)
           refine pure_ (i := 16) (N := some 57) (v := ?_) (a' := ?_) spec_l10Grows.m45 rfl rfl (any_of HT_.out (by kernel_rfl)) (fun _ _ _ h => h) (Or.inl ⟨by rfl, ?_⟩) ?_ ?_; rotate_left; (focus intro w'; go_simp; with_reducible rfl); rotate_left; (focus simp only [pt, i64_w, i32_w]; rfl)
           refine pure_ (i := 20) (N := some 61) (v := ?_) (a' := ?_) spec_l10Grows.m46 rfl rfl (any_of HT_.out (by kernel_rfl)) (fun _ _ _ h => h) (Or.inl ⟨by rfl, ?_⟩) ?_ ?_; rotate_left; (focus intro w'; go_simp; with_reducible rfl); rotate_left; (focus simp only [pt, i64_w, i32_w]; rfl)
           refine pure_ (i := 22) (N := some 63) (v := ?_) (a' := ?_) spec_l10Grows.m47 rfl rfl (any_of HT_.out (by kernel_rfl)) (fun _ _ _ h => h) (Or.inl ⟨by rfl, ?_⟩) ?_ ?_; rotate_left; (focus intro w'; go_simp; with_reducible rfl); rotate_left; (focus simp only [pt, i64_w, i32_w]; rfl)
           refine take_ (i := 15) (N := some 56) (v := ?_) (a' := ?_) spec_l10Grows.m48 rfl rfl (take_ofW HT_.out HW_.out (by kernel_rfl)) (fun _ _ _ h => h) (Or.inl ⟨by rfl, ?_⟩) hHeld ?_ ?_; rotate_left; (focus rintro w' ⟨s0, s1, s2, s3, s4, s5, s6, s7, s8, s9, s10, s11, s12, s13, s14, s15, s16, s17, s18, s19⟩; go_simp; with_reducible rfl); rotate_left; (focus simp only [pt, i64_w, i32_w]; rfl)
           refine pure_ (i := 17) (N := some 58) (v := ?_) (a' := ?_) spec_l10Grows.m49 rfl rfl (any_of HT_.out (by kernel_rfl)) (fun _ _ _ h => h) (Or.inl ⟨by rfl, ?_⟩) ?_ ?_; rotate_left; (focus intro w'; go_simp; with_reducible rfl); rotate_left; (focus simp only [pt, i64_w, i32_w]; rfl)
           refine pure_ (i := 18) (N := some 59) (v := ?_) (a' := ?_) spec_l10Grows.m50 rfl rfl (any_of HT_.out (by kernel_rfl)) (fun _ _ _ h => h) (Or.inl ⟨by rfl, ?_⟩) ?_ ?_; rotate_left; (focus intro w'; go_simp; with_reducible rfl); rotate_left; (focus simp only [pt, i64_w, i32_w]; rfl)
           refine take_ (i := 19) (N := some 60) (v := ?_) (a' := ?_) spec_l10Grows.m51 rfl rfl (take_ofW HT_.out HW_.out (by kernel_rfl)) (fun _ _ _ h => h) (Or.inl ⟨by rfl, ?_⟩) hHeld ?_ ?_; rotate_left; (focus rintro w' ⟨s0, s1, s2, s3, s4, s5, s6, s7, s8, s9, s10, s11, s12, s13, s14, s15, s16, s17, s18, s19⟩; go_simp; with_reducible rfl); rotate_left; (focus simp only [pt, i64_w, i32_w]; rfl)
           refine take_ (i := 21) (N := some 62) (v := ?_) (a' := ?_) spec_l10Grows.m52 rfl rfl (take_ofW HT_.out HW_.out (by kernel_rfl)) (fun _ _ _ h => h) (Or.inl ⟨by rfl, ?_⟩) hHeld ?_ ?_; rotate_left; (focus rintro w' ⟨s0, s1, s2, s3, s4, s5, s6, s7, s8, s9, s10, s11, s12, s13, s14, s15, s16, s17, s18, s19⟩; go_simp; with_reducible rfl); rotate_left; (focus simp only [pt, i64_w, i32_w]; rfl)
           refine pure_ (i := 23) (N := some 64) (v := ?_) (a' := ?_) spec_l10Grows.m53 rfl rfl (any_of HT_.out (by kernel_rfl)) (fun _ _ _ h => h) (Or.inl ⟨by rfl, ?_⟩) ?_ ?_; rotate_left; (focus intro w'; go_simp; with_reducible rfl); rotate_left; (focus simp only [pt, i64_w, i32_w]; rfl)
           refine pure_ (i := 24) (N := some 65) (v := ?_) (a' := ?_) spec_l10Grows.m54 rfl rfl (any_of HT_.out (by kernel_rfl)) (fun _ _ _ h => h) (Or.inl ⟨by rfl, ?_⟩) ?_ ?_; rotate_left; (focus intro w'; go_simp; with_reducible rfl); rotate_left; (focus simp only [pt, i64_w, i32_w]; rfl)
           refine take_ (i := 25) (N := some 66) (v := ?_) (a' := ?_) spec_l10Grows.m55 rfl rfl (take_ofW HT_.out HW_.out (by kernel_rfl)) (fun _ _ _ h => h) (Or.inl ⟨by rfl, ?_⟩) hHeld ?_ ?_; rotate_left; (focus rintro w' ⟨s0, s1, s2, s3, s4, s5, s6, s7, s8, s9, s10, s11, s12, s13, s14, s15, s16, s17, s18, s19⟩; go_simp; with_reducible rfl); rotate_left; (focus simp only [pt, i64_w, i32_w]; rfl)
           refine pure_ (i := 26) (N := some 67) (v := ?_) (a' := ?_) spec_l10Grows.m56 rfl rfl (any_of HT_.out (by kernel_rfl)) (fun _ _ _ h => h) (Or.inl ⟨by rfl, ?_⟩) ?_ ?_; rotate_left; (focus intro w'; go_simp; with_reducible rfl); rotate_left; (focus simp only [pt, i64_w, i32_w]; rfl)
           refine pure_ (i := 27) (N := some 68) (v := ?_) (a' := ?_) spec_l10Grows.m57 rfl rfl (any_of HT_.out (by kernel_rfl)) (fun _ _ _ h => h) (Or.inl ⟨by rfl, ?_⟩) ?_ ?_; rotate_left; (focus intro w'; go_simp; with_reducible rfl); rotate_left; (focus simp only [pt, i64_w, i32_w]; rfl)
           refine pure_ (i := 28) (N := some 69) (v := ?_) (a' := ?_) spec_l10Grows.m58 rfl rfl (any_of HT_.out (by kernel_rfl)) (fun _ _ _ h => h) (Or.inl ⟨by rfl, ?_⟩) ?_ ?_; rotate_left; (focus intro w'; go_simp; with_reducible rfl); rotate_left; (focus simp only [pt, i64_w, i32_w]; rfl)
           refine pure_ (i := 29) (N := some 70) (v := undef) (a' := ?_) spec_l10Grows.m59 rfl rfl (any_of HT_.out (by kernel_rfl)) (fun _ _ _ h => h) (Or.inr ⟨by rfl, rfl⟩) ?_ ?_; rotate_left; (focus simp only [pt, i64_w, i32_w]; rfl)
           refine pure_ (i := 30) (N := some 71) (v := undef) (a' := ?_) spec_l10Grows.m60 rfl rfl (any_of HT_.out (by kernel_rfl)) (fun _ _ _ h => h) (Or.inr ⟨by rfl, rfl⟩) ?_ ?_; rotate_left; (focus simp only [pt, i64_w, i32_w]; rfl)
           refine pure_ (i := 31) (N := some 72) (v := undef) (a' := ?_) spec_l10Grows.m61 rfl rfl (any_of HT_.out (by kernel_rfl)) (fun _ _ _ h => h) (Or.inr ⟨by rfl, rfl⟩) ?_ ?_; rotate_left; (focus simp only [pt, i64_w, i32_w]; rfl)
           refine pure_ (i := 32) (N := some 73) (v := undef) (a' := ?_) spec_l10Grows.m62 rfl rfl (any_of HT_.out (by kernel_rfl)) (fun _ _ _ h => h) (Or.inr ⟨by rfl, rfl⟩) ?_ ?_; rotate_left; (focus simp only [pt, i64_w, i32_w]; rfl)
           refine pure_ (i := 33) (N := some 74) (v := undef) (a' := ?_) spec_l10Grows.m63 rfl rfl (any_of HT_.out (by kernel_rfl)) (fun _ _ _ h => h) (Or.inr ⟨by rfl, rfl⟩) ?_ ?_; rotate_left; (focus simp only [pt, i64_w, i32_w]; rfl)
           refine pure_ (i := 34) (N := some 75) (v := undef) (a' := ?_) spec_l10Grows.m64 rfl rfl (any_of HT_.out (by kernel_rfl)) (fun _ _ _ h => h) (Or.inr ⟨by rfl, rfl⟩) ?_ ?_; rotate_left; (focus simp only [pt, i64_w, i32_w]; rfl)
           refine pure_ (i := 35) (N := some 76) (v := undef) (a' := ?_) spec_l10Grows.m65 rfl rfl (any_of HT_.out (by kernel_rfl)) (fun _ _ _ h => h) (Or.inr ⟨by rfl, rfl⟩) ?_ ?_; rotate_left; (focus simp only [pt, i64_w, i32_w]; rfl)
           refine pure_ (i := 36) (N := some 77) (v := undef) (a' := ?_) spec_l10Grows.m66 rfl rfl (any_of HT_.out (by kernel_rfl)) (fun _ _ _ h => h) (Or.inr ⟨by rfl, rfl⟩) ?_ ?_; rotate_left; (focus simp only [pt, i64_w, i32_w]; rfl)
           refine pure_ (i := 37) (N := some 78) (v := undef) (a' := ?_) spec_l10Grows.m67 rfl rfl (any_of HT_.out (by kernel_rfl)) (fun _ _ _ h => h) (Or.inr ⟨by rfl, rfl⟩) ?_ ?_; rotate_left; (focus simp only [pt, i64_w, i32_w]; rfl)
           refine pure_ (i := 38) (N := some 79) (v := undef) (a' := ?_) spec_l10Grows.m68 rfl rfl (any_of HT_.out (by kernel_rfl)) (fun _ _ _ h => h) (Or.inr ⟨by rfl, rfl⟩) ?_ ?_; rotate_left; (focus simp only [pt, i64_w, i32_w]; rfl)
           refine pure_ (i := 39) (N := some 80) (v := undef) (a' := ?_) spec_l10Grows.m69 rfl rfl (any_of HT_.out (by kernel_rfl)) (fun _ _ _ h => h) (Or.inr ⟨by rfl, rfl⟩) ?_ ?_; rotate_left; (focus simp only [pt, i64_w, i32_w]; rfl)
           refine pure_ (i := 40) (N := some 81) (v := undef) (a' := ?_) spec_l10Grows.m70 rfl rfl (any_of HT_.out (by kernel_rfl)) (fun _ _ _ h => h) (Or.inr ⟨by rfl, rfl⟩) ?_ ?_; rotate_left; (focus simp only [pt, i64_w, i32_w]; rfl)
           refine pure_ (i := 41) (N := some 82) (v := undef) (a' := ?_) spec_l10Grows.m71 rfl rfl (any_of HT_.out (by kernel_rfl)) (fun _ _ _ h => h) (Or.inr ⟨by rfl, rfl⟩) ?_ ?_; rotate_left; (focus simp only [pt, i64_w, i32_w]; rfl)
           refine pure_ (i := 42) (N := some 83) (v := undef) (a' := ?_) spec_l10Grows.m72 rfl rfl (any_of HT_.out (by kernel_rfl)) (fun _ _ _ h => h) (Or.inr ⟨by rfl, rfl⟩) ?_ ?_; rotate_left; (focus simp only [pt, i64_w, i32_w]; rfl)
           refine pure_ (i := 43) (N := some 84) (v := undef) (a' := ?_) spec_l10Grows.m73 rfl rfl (any_of HT_.out (by kernel_rfl)) (fun _ _ _ h => h) (Or.inr ⟨by rfl, rfl⟩) ?_ ?_; rotate_left; (focus simp only [pt, i64_w, i32_w]; rfl)
           refine pure_ (i := 44) (N := some 85) (v := undef) (a' := ?_) spec_l10Grows.m74 rfl rfl (any_of HT_.out (by kernel_rfl)) (fun _ _ _ h => h) (Or.inr ⟨by rfl, rfl⟩) ?_ ?_; rotate_left; (focus simp only [pt, i64_w, i32_w]; rfl)
           refine pure_ (i := 45) (N := some 86) (v := undef) (a' := ?_) spec_l10Grows.m75 rfl rfl (any_of HT_.out (by kernel_rfl)) (fun _ _ _ h => h) (Or.inr ⟨by rfl, rfl⟩) ?_ ?_; rotate_left; (focus simp only [pt, i64_w, i32_w]; rfl)
           refine pure_ (i := 46) (N := some 87) (v := undef) (a' := ?_) spec_l10Grows.m76 rfl rfl (any_of HT_.out (by kernel_rfl)) (fun _ _ _ h => h) (Or.inr ⟨by rfl, rfl⟩) ?_ ?_; rotate_left; (focus simp only [pt, i64_w, i32_w]; rfl)
           refine pure_ (i := 47) (N := some 88) (v := undef) (a' := ?_) spec_l10Grows.m77 rfl rfl (any_of HT_.out (by kernel_rfl)) (fun _ _ _ h => h) (Or.inr ⟨by rfl, rfl⟩) ?_ ?_; rotate_left; (focus simp only [pt, i64_w, i32_w]; rfl)
           refine pure_ (i := 48) (N := some 89) (v := undef) (a' := ?_) spec_l10Grows.m78 rfl rfl (any_of HT_.out (by kernel_rfl)) (fun _ _ _ h => h) (Or.inr ⟨by rfl, rfl⟩) ?_ ?_; rotate_left; (focus simp only [pt, i64_w, i32_w]; rfl)
           refine pure_ (i := 49) (N := some 90) (v := undef) (a' := ?_) spec_l10Grows.m79 rfl rfl (any_of HT_.out (by kernel_rfl)) (fun _ _ _ h => h) (Or.inr ⟨by rfl, rfl⟩) ?_ ?_; rotate_left; (focus simp only [pt, i64_w, i32_w]; rfl)
           refine pure_ (i := 50) (N := some 91) (v := undef) (a' := ?_) spec_l10Grows.m80 rfl rfl (any_of HT_.out (by kernel_rfl)) (fun _ _ _ h => h) (Or.inr ⟨by rfl, rfl⟩) ?_ ?_; rotate_left; (focus simp only [pt, i64_w, i32_w]; rfl)
           refine pure_ (i := 51) (N := some 92) (v := undef) (a' := ?_) spec_l10Grows.m81 rfl rfl (any_of HT_.out (by kernel_rfl)) (fun _ _ _ h => h) (Or.inr ⟨by rfl, rfl⟩) ?_ ?_; rotate_left; (focus simp only [pt, i64_w, i32_w]; rfl)
           refine pure_ (i := 52) (N := some 93) (v := undef) (a' := ?_) spec_l10Grows.m82 rfl rfl (any_of HT_.out (by kernel_rfl)) (fun _ _ _ h => h) (Or.inr ⟨by rfl, rfl⟩) ?_ ?_; rotate_left; (focus simp only [pt, i64_w, i32_w]; rfl)
           refine pure_ (i := 53) (N := some 94) (v := undef) (a' := ?_) spec_l10Grows.m83 rfl rfl (any_of HT_.out (by kernel_rfl)) (fun _ _ _ h => h) (Or.inr ⟨by rfl, rfl⟩) ?_ ?_; rotate_left; (focus simp only [pt, i64_w, i32_w]; rfl)
           refine pure_ (i := 54) (N := some 95) (v := undef) (a' := ?_) spec_l10Grows.m84 rfl rfl (any_of HT_.out (by kernel_rfl)) (fun _ _ _ h => h) (Or.inr ⟨by rfl, rfl⟩) ?_ ?_; rotate_left; (focus simp only [pt, i64_w, i32_w]; rfl)
           refine pure_ (i := 55) (N := some 96) (v := ?_) (a' := ?_) spec_l10Grows.m85 rfl rfl (any_of HT_.out (by kernel_rfl)) (fun _ _ _ h => h) (Or.inl ⟨by rfl, ?_⟩) ?_ ?_; rotate_left; (focus intro w'; go_simp; with_reducible rfl); rotate_left; (focus simp only [pt, i64_w, i32_w]; rfl)
           refine done_ (done_of HT_.out (by kernel_rfl)) ?_
           try go_wp2
           go_ret
           exact ⟨rE, bW⟩
          ·rw [if_neg c21] at H
           have c21b0 : decide (((rd_T178 l1_1 x5_2).f2) < ((rd_T178 l0_1 x5_2).f2)) = false := decide_eq_false c21
           clear c21
           by_cases c25 : ((rd_T178 l1_1 x5_2).f2) = ((rd_T178 l0_1 x5_2).f2)
           ·rw [if_pos c25] at H
            have c25b0 : (((rd_T178 l1_1 x5_2).f2) == ((rd_T178 l0_1 x5_2).f2)) = true := beq_iff_eq.mpr c25
            have c25b1 : (((rd_T178 l1_1 x5_2).f2) != ((rd_T178 l0_1 x5_2).f2)) = false := bne_eq_false_iff_eq.mpr c25
            clear c25
            rw [show (!((((rd_T178 l1_1 x5_2).f0).toList) == (((rd_T178 l0_1 x5_2).f0).toList)) || (!(((rd_T178 l1_1 x5_2).f1) == ((rd_T178 l0_1 x5_2).f1)) || (!(((rd_T178 l1_1 x5_2).f2) == ((rd_T178 l0_1 x5_2).f2)) || (!(((rd_T178 l1_1 x5_2).f3) == ((rd_T178 l0_1 x5_2).f3)))))) = ((!((((rd_T178 l1_1 x5_2).f1) == ((rd_T178 l0_1 x5_2).f1)))) || ((!((((rd_T178 l1_1 x5_2).f3) == ((rd_T178 l0_1 x5_2).f3)))))) from by simp only [c20b0, c25b0, Bool.not_true, Bool.false_or, Bool.or_false]] at H
            by_cases c26 : ((!((((rd_T178 l1_1 x5_2).f1) == ((rd_T178 l0_1 x5_2).f1)))) || ((!((((rd_T178 l1_1 x5_2).f3) == ((rd_T178 l0_1 x5_2).f3)))))) = true
            ·rw [if_pos c26] at H
             have c26b0 : ((!((((rd_T178 l1_1 x5_2).f1) == ((rd_T178 l0_1 x5_2).f1)))) || ((!((((rd_T178 l1_1 x5_2).f3) == ((rd_T178 l0_1 x5_2).f3)))))) = true := c26
             clear c26
             obtain rfl := Option.some.inj H
             have hnb27 := NB779_780.out
             have hnc27 := NB780_779.out
             have hcz28_0 : wr.cell? ⟨gb779, 0, none⟩ = some (.slice A0_0 l0_0.length c0_0) := (blk_cell BK779.out 0).trans rfl
             have hcz28_1 : wr.cell? ⟨gb779, 1, none⟩ = some (.slice A0_1 l0_1.length c0_1) := (blk_cell BK779.out 1).trans rfl
             have hfz28_0 := fz1 BK779
             have hfz28_1 := blk_frozen BK779.out 1
             try go_wp2
             have n0_ := Aside0.mk (blk_drew BK779.out)
             have n1_ := Aside0.mk (blk_drew BK780.out)
             have n2_ := Aside0.mk (below_drew1 HB.out)
             clear BK779
             clear BK780
             clear HB
             have BK779 := n0_
             have BK780 := n1_
             have HB := n2_
             clear n0_ n1_ n2_
             have p786 : 0 ≤ (x5_2 : Int) := odt
             have q786 : x5_2 < (l1_1.length : Int) := odt
             obtain ⟨ad786, e786, hx786_0, hx786_1, hx786_2, hx786_3⟩ := at_T178 HR1_1.out x5_2 p786 q786
             have hw786_3 := hx786_3
             have hw786_2 := hx786_2
             have hw786_1 := hx786_1
             have hw786_0 := hx786_0
             cases e786
             replace hx786_0 := (HB.out.cell (World.block_lt_of_cell? w _ hx786_0)).trans hx786_0
             replace hx786_1 := (HB.out.cell (World.block_lt_of_cell? w _ hx786_1)).trans hx786_1
             replace hx786_2 := (HB.out.cell (World.block_lt_of_cell? w _ hx786_2)).trans hx786_2
             replace hx786_3 := (HB.out.cell (World.block_lt_of_cell? w _ hx786_3)).trans hx786_3
             replace p786 := eq_true p786
             replace q786 := eq_true q786
             have p787 : 0 ≤ (x5_2 : Int) := odt
             have q787 : x5_2 < (l0_1.length : Int) := odt
             obtain ⟨ad787, e787, hx787_0, hx787_1, hx787_2, hx787_3⟩ := at_T178 HR0_1.out x5_2 p787 q787
             have hw787_3 := hx787_3
             have hw787_2 := hx787_2
             have hw787_1 := hx787_1
             have hw787_0 := hx787_0
             cases e787
             replace hx787_0 := (HB.out.cell (World.block_lt_of_cell? w _ hx787_0)).trans hx787_0
             replace hx787_1 := (HB.out.cell (World.block_lt_of_cell? w _ hx787_1)).trans hx787_1
             replace hx787_2 := (HB.out.cell (World.block_lt_of_cell? w _ hx787_2)).trans hx787_2
             replace hx787_3 := (HB.out.cell (World.block_lt_of_cell? w _ hx787_3)).trans hx787_3
             replace p787 := eq_true p787
             replace q787 := eq_true q787
             have p788 : 0 ≤ (x5_2 : Int) := odt
             have q788 : x5_2 < (l1_1.length : Int) := odt
             obtain ⟨ad788, e788, hx788_0, hx788_1, hx788_2, hx788_3⟩ := at_T178 HR1_1.out x5_2 p788 q788
             have hw788_3 := hx788_3
             have hw788_2 := hx788_2
             have hw788_1 := hx788_1
             have hw788_0 := hx788_0
             obtain rfl : ad786 = ad788 := (by injection e788)
             replace hx788_0 := (HB.out.cell (World.block_lt_of_cell? w _ hx788_0)).trans hx788_0
             replace hx788_1 := (HB.out.cell (World.block_lt_of_cell? w _ hx788_1)).trans hx788_1
             replace hx788_2 := (HB.out.cell (World.block_lt_of_cell? w _ hx788_2)).trans hx788_2
             replace hx788_3 := (HB.out.cell (World.block_lt_of_cell? w _ hx788_3)).trans hx788_3
             replace p788 := eq_true p788
             replace q788 := eq_true q788
             have p789 : 0 ≤ (x5_2 : Int) := odt
             have q789 : x5_2 < (l0_1.length : Int) := odt
             obtain ⟨ad789, e789, hx789_0, hx789_1, hx789_2, hx789_3⟩ := at_T178 HR0_1.out x5_2 p789 q789
             have hw789_3 := hx789_3
             have hw789_2 := hx789_2
             have hw789_1 := hx789_1
             have hw789_0 := hx789_0
             obtain rfl : ad787 = ad789 := (by injection e789)
             replace hx789_0 := (HB.out.cell (World.block_lt_of_cell? w _ hx789_0)).trans hx789_0
             replace hx789_1 := (HB.out.cell (World.block_lt_of_cell? w _ hx789_1)).trans hx789_1
             replace hx789_2 := (HB.out.cell (World.block_lt_of_cell? w _ hx789_2)).trans hx789_2
             replace hx789_3 := (HB.out.cell (World.block_lt_of_cell? w _ hx789_3)).trans hx789_3
             replace p789 := eq_true p789
             replace q789 := eq_true q789
             have p790 : 0 ≤ (x5_2 : Int) := odt
             have q790 : x5_2 < (l1_1.length : Int) := odt
             obtain ⟨ad790, e790, hx790_0, hx790_1, hx790_2, hx790_3⟩ := at_T178 HR1_1.out x5_2 p790 q790
             have hw790_3 := hx790_3
             have hw790_2 := hx790_2
             have hw790_1 := hx790_1
             have hw790_0 := hx790_0
             obtain rfl : ad786 = ad790 := (by injection e790)
             replace hx790_0 := (HB.out.cell (World.block_lt_of_cell? w _ hx790_0)).trans hx790_0
             replace hx790_1 := (HB.out.cell (World.block_lt_of_cell? w _ hx790_1)).trans hx790_1
             replace hx790_2 := (HB.out.cell (World.block_lt_of_cell? w _ hx790_2)).trans hx790_2
             replace hx790_3 := (HB.out.cell (World.block_lt_of_cell? w _ hx790_3)).trans hx790_3
             replace p790 := eq_true p790
             replace q790 := eq_true q790
             have p791 : 0 ≤ (x5_2 : Int) := odt
             have q791 : x5_2 < (l0_1.length : Int) := odt
             obtain ⟨ad791, e791, hx791_0, hx791_1, hx791_2, hx791_3⟩ := at_T178 HR0_1.out x5_2 p791 q791
             have hw791_3 := hx791_3
             have hw791_2 := hx791_2
             have hw791_1 := hx791_1
             have hw791_0 := hx791_0
             obtain rfl : ad787 = ad791 := (by injection e791)
             replace hx791_0 := (HB.out.cell (World.block_lt_of_cell? w _ hx791_0)).trans hx791_0
             replace hx791_1 := (HB.out.cell (World.block_lt_of_cell? w _ hx791_1)).trans hx791_1
             replace hx791_2 := (HB.out.cell (World.block_lt_of_cell? w _ hx791_2)).trans hx791_2
             replace hx791_3 := (HB.out.cell (World.block_lt_of_cell? w _ hx791_3)).trans hx791_3
             replace p791 := eq_true p791
             replace q791 := eq_true q791
             have p792 : 0 ≤ (x5_2 : Int) := odt
             have q792 : x5_2 < (l1_1.length : Int) := odt
             obtain ⟨ad792, e792, hx792_0, hx792_1, hx792_2, hx792_3⟩ := at_T178 HR1_1.out x5_2 p792 q792
             have hw792_3 := hx792_3
             have hw792_2 := hx792_2
             have hw792_1 := hx792_1
             have hw792_0 := hx792_0
             obtain rfl : ad786 = ad792 := (by injection e792)
             replace hx792_0 := (HB.out.cell (World.block_lt_of_cell? w _ hx792_0)).trans hx792_0
             replace hx792_1 := (HB.out.cell (World.block_lt_of_cell? w _ hx792_1)).trans hx792_1
             replace hx792_2 := (HB.out.cell (World.block_lt_of_cell? w _ hx792_2)).trans hx792_2
             replace hx792_3 := (HB.out.cell (World.block_lt_of_cell? w _ hx792_3)).trans hx792_3
             replace p792 := eq_true p792
             replace q792 := eq_true q792
             have p793 : 0 ≤ (x5_2 : Int) := odt
             have q793 : x5_2 < (l0_1.length : Int) := odt
             obtain ⟨ad793, e793, hx793_0, hx793_1, hx793_2, hx793_3⟩ := at_T178 HR0_1.out x5_2 p793 q793
             have hw793_3 := hx793_3
             have hw793_2 := hx793_2
             have hw793_1 := hx793_1
             have hw793_0 := hx793_0
             obtain rfl : ad787 = ad793 := (by injection e793)
             replace hx793_0 := (HB.out.cell (World.block_lt_of_cell? w _ hx793_0)).trans hx793_0
             replace hx793_1 := (HB.out.cell (World.block_lt_of_cell? w _ hx793_1)).trans hx793_1
             replace hx793_2 := (HB.out.cell (World.block_lt_of_cell? w _ hx793_2)).trans hx793_2
             replace hx793_3 := (HB.out.cell (World.block_lt_of_cell? w _ hx793_3)).trans hx793_3
             replace p793 := eq_true p793
             replace q793 := eq_true q793
             refine start_ (n := 56) (S := fun w' => w'.cell? ⟨gb780, 0, none⟩ = some (.slice A1_0 l1_0.length c1_0) ∧ w'.cell? ⟨gb780, 1, none⟩ = some (.slice (some ad786) l1_1.length c1_1) ∧ w'.cell? ⟨gb779, 0, none⟩ = some (.slice A0_0 l0_0.length c0_0) ∧ w'.cell? ⟨gb779, 1, none⟩ = some (.slice (some ad787) l0_1.length c0_1) ∧ w'.cell? (ad786.add ((x5_2).toNat * 4)) = some (.string ((rd_T178 l1_1 x5_2).f0)) ∧ w'.cell? ⟨(ad786.add ((x5_2).toNat * 4)).block, (ad786.add ((x5_2).toNat * 4)).off + 1, none⟩ = some (.int .i64 ((rd_T178 l1_1 x5_2).f1)) ∧ w'.cell? ⟨(ad786.add ((x5_2).toNat * 4)).block, (ad786.add ((x5_2).toNat * 4)).off + 2, none⟩ = some (.int .i64 ((rd_T178 l1_1 x5_2).f2)) ∧ w'.cell? ⟨(ad786.add ((x5_2).toNat * 4)).block, (ad786.add ((x5_2).toNat * 4)).off + 3, none⟩ = some (.bool ((rd_T178 l1_1 x5_2).f3)) ∧ w'.cell? (ad787.add ((x5_2).toNat * 4)) = some (.string ((rd_T178 l0_1 x5_2).f0)) ∧ w'.cell? ⟨(ad787.add ((x5_2).toNat * 4)).block, (ad787.add ((x5_2).toNat * 4)).off + 1, none⟩ = some (.int .i64 ((rd_T178 l0_1 x5_2).f1)) ∧ w'.cell? ⟨(ad787.add ((x5_2).toNat * 4)).block, (ad787.add ((x5_2).toNat * 4)).off + 2, none⟩ = some (.int .i64 ((rd_T178 l0_1 x5_2).f2)) ∧ w'.cell? ⟨(ad787.add ((x5_2).toNat * 4)).block, (ad787.add ((x5_2).toNat * 4)).off + 3, none⟩ = some (.bool ((rd_T178 l0_1 x5_2).f3)) ∧ w'.cell? (ad786.add ((x5_2).toNat * 4)) = some (.string ((rd_T178 l1_1 x5_2).f0)) ∧ w'.cell? ⟨(ad786.add ((x5_2).toNat * 4)).block, (ad786.add ((x5_2).toNat * 4)).off + 1, none⟩ = some (.int .i64 ((rd_T178 l1_1 x5_2).f1)) ∧ w'.cell? ⟨(ad786.add ((x5_2).toNat * 4)).block, (ad786.add ((x5_2).toNat * 4)).off + 2, none⟩ = some (.int .i64 ((rd_T178 l1_1 x5_2).f2)) ∧ w'.cell? ⟨(ad786.add ((x5_2).toNat * 4)).block, (ad786.add ((x5_2).toNat * 4)).off + 3, none⟩ = some (.bool ((rd_T178 l1_1 x5_2).f3)) ∧ w'.cell? (ad787.add ((x5_2).toNat * 4)) = some (.string ((rd_T178 l0_1 x5_2).f0)) ∧ w'.cell? ⟨(ad787.add ((x5_2).toNat * 4)).block, (ad787.add ((x5_2).toNat * 4)).off + 1, none⟩ = some (.int .i64 ((rd_T178 l0_1 x5_2).f1)) ∧ w'.cell? ⟨(ad787.add ((x5_2).toNat * 4)).block, (ad787.add ((x5_2).toNat * 4)).off + 2, none⟩ = some (.int .i64 ((rd_T178 l0_1 x5_2).f2)) ∧ w'.cell? ⟨(ad787.add ((x5_2).toNat * 4)).block, (ad787.add ((x5_2).toNat * 4)).off + 3, none⟩ = some (.bool ((rd_T178 l0_1 x5_2).f3)) ∧ w'.cell? (ad786.add ((x5_2).toNat * 4)) = some (.string ((rd_T178 l1_1 x5_2).f0)) ∧ w'.cell? ⟨(ad786.add ((x5_2).toNat * 4)).block, (ad786.add ((x5_2).toNat * 4)).off + 1, none⟩ = some (.int .i64 ((rd_T178 l1_1 x5_2).f1)) ∧ w'.cell? ⟨(ad786.add ((x5_2).toNat * 4)).block, (ad786.add ((x5_2).toNat * 4)).off + 2, none⟩ = some (.int .i64 ((rd_T178 l1_1 x5_2).f2)) ∧ w'.cell? ⟨(ad786.add ((x5_2).toNat * 4)).block, (ad786.add ((x5_2).toNat * 4)).off + 3, none⟩ = some (.bool ((rd_T178 l1_1 x5_2).f3)) ∧ w'.cell? (ad787.add ((x5_2).toNat * 4)) = some (.string ((rd_T178 l0_1 x5_2).f0)) ∧ w'.cell? ⟨(ad787.add ((x5_2).toNat * 4)).block, (ad787.add ((x5_2).toNat * 4)).off + 1, none⟩ = some (.int .i64 ((rd_T178 l0_1 x5_2).f1)) ∧ w'.cell? ⟨(ad787.add ((x5_2).toNat * 4)).block, (ad787.add ((x5_2).toNat * 4)).off + 2, none⟩ = some (.int .i64 ((rd_T178 l0_1 x5_2).f2)) ∧ w'.cell? ⟨(ad787.add ((x5_2).toNat * 4)).block, (ad787.add ((x5_2).toNat * 4)).off + 3, none⟩ = some (.bool ((rd_T178 l0_1 x5_2).f3)) ∧ w'.cell? (ad786.add ((x5_2).toNat * 4)) = some (.string ((rd_T178 l1_1 x5_2).f0)) ∧ w'.cell? ⟨(ad786.add ((x5_2).toNat * 4)).block, (ad786.add ((x5_2).toNat * 4)).off + 1, none⟩ = some (.int .i64 ((rd_T178 l1_1 x5_2).f1)) ∧ w'.cell? ⟨(ad786.add ((x5_2).toNat * 4)).block, (ad786.add ((x5_2).toNat * 4)).off + 2, none⟩ = some (.int .i64 ((rd_T178 l1_1 x5_2).f2)) ∧ w'.cell? ⟨(ad786.add ((x5_2).toNat * 4)).block, (ad786.add ((x5_2).toNat * 4)).off + 3, none⟩ = some (.bool ((rd_T178 l1_1 x5_2).f3)) ∧ w'.cell? (ad787.add ((x5_2).toNat * 4)) = some (.string ((rd_T178 l0_1 x5_2).f0)) ∧ w'.cell? ⟨(ad787.add ((x5_2).toNat * 4)).block, (ad787.add ((x5_2).toNat * 4)).off + 1, none⟩ = some (.int .i64 ((rd_T178 l0_1 x5_2).f1)) ∧ w'.cell? ⟨(ad787.add ((x5_2).toNat * 4)).block, (ad787.add ((x5_2).toNat * 4)).off + 2, none⟩ = some (.int .i64 ((rd_T178 l0_1 x5_2).f2)) ∧ w'.cell? ⟨(ad787.add ((x5_2).toNat * 4)).block, (ad787.add ((x5_2).toNat * 4)).off + 3, none⟩ = some (.bool ((rd_T178 l0_1 x5_2).f3))) (ds := []) spec_l10Grows.m29 (by kernel_rfl) rfl rfl ⟨(blk_cell BK780.out 0).trans rfl, (blk_cell BK780.out 1).trans rfl, (blk_cell BK779.out 0).trans rfl, (blk_cell BK779.out 1).trans rfl, ((HB.out.cell (World.block_lt_of_cell? w _ hw786_0)).trans hw786_0), ((HB.out.cell (World.block_lt_of_cell? w _ hw786_1)).trans hw786_1), ((HB.out.cell (World.block_lt_of_cell? w _ hw786_2)).trans hw786_2), ((HB.out.cell (World.block_lt_of_cell? w _ hw786_3)).trans hw786_3), ((HB.out.cell (World.block_lt_of_cell? w _ hw787_0)).trans hw787_0), ((HB.out.cell (World.block_lt_of_cell? w _ hw787_1)).trans hw787_1), ((HB.out.cell (World.block_lt_of_cell? w _ hw787_2)).trans hw787_2), ((HB.out.cell (World.block_lt_of_cell? w _ hw787_3)).trans hw787_3), ((HB.out.cell (World.block_lt_of_cell? w _ hw788_0)).trans hw788_0), ((HB.out.cell (World.block_lt_of_cell? w _ hw788_1)).trans hw788_1), ((HB.out.cell (World.block_lt_of_cell? w _ hw788_2)).trans hw788_2), ((HB.out.cell (World.block_lt_of_cell? w _ hw788_3)).trans hw788_3), ((HB.out.cell (World.block_lt_of_cell? w _ hw789_0)).trans hw789_0), ((HB.out.cell (World.block_lt_of_cell? w _ hw789_1)).trans hw789_1), ((HB.out.cell (World.block_lt_of_cell? w _ hw789_2)).trans hw789_2), ((HB.out.cell (World.block_lt_of_cell? w _ hw789_3)).trans hw789_3), ((HB.out.cell (World.block_lt_of_cell? w _ hw790_0)).trans hw790_0), ((HB.out.cell (World.block_lt_of_cell? w _ hw790_1)).trans hw790_1), ((HB.out.cell (World.block_lt_of_cell? w _ hw790_2)).trans hw790_2), ((HB.out.cell (World.block_lt_of_cell? w _ hw790_3)).trans hw790_3), ((HB.out.cell (World.block_lt_of_cell? w _ hw791_0)).trans hw791_0), ((HB.out.cell (World.block_lt_of_cell? w _ hw791_1)).trans hw791_1), ((HB.out.cell (World.block_lt_of_cell? w _ hw791_2)).trans hw791_2), ((HB.out.cell (World.block_lt_of_cell? w _ hw791_3)).trans hw791_3), ((HB.out.cell (World.block_lt_of_cell? w _ hw792_0)).trans hw792_0), ((HB.out.cell (World.block_lt_of_cell? w _ hw792_1)).trans hw792_1), ((HB.out.cell (World.block_lt_of_cell? w _ hw792_2)).trans hw792_2), ((HB.out.cell (World.block_lt_of_cell? w _ hw792_3)).trans hw792_3), ((HB.out.cell (World.block_lt_of_cell? w _ hw793_0)).trans hw793_0), ((HB.out.cell (World.block_lt_of_cell? w _ hw793_1)).trans hw793_1), ((HB.out.cell (World.block_lt_of_cell? w _ hw793_2)).trans hw793_2), ((HB.out.cell (World.block_lt_of_cell? w _ hw793_3)).trans hw793_3)⟩ (fun hHeld => ?_); refine with_tabW spec_l10Grows.tab6 spec_l10Grows.bits6 (fun HT_ HW_ => ?_)
             generalize wr.drew = w29 at BK779 BK780 HB hx786_0 hx786_1 hx786_2 hx786_3 hx787_0 hx787_1 hx787_2 hx787_3 hx788_0 hx788_1 hx788_2 hx788_3 hx789_0 hx789_1 hx789_2 hx789_3 hx790_0 hx790_1 hx790_2 hx790_3 hx791_0 hx791_1 hx791_2 hx791_3 hx792_0 hx792_1 hx792_2 hx792_3 hx793_0 hx793_1 hx793_2 hx793_3 hHeld ⊢
             refine pure_ (i := 0) (N := some 41) (v := ?_) (a' := ?_) spec_l10Grows.m30 rfl rfl (any_of HT_.out (by kernel_rfl)) (fun _ _ _ h => h) (Or.inl ⟨by rfl, ?_⟩) ?_ ?_; rotate_left; (focus intro w'; go_simp; with_reducible rfl); rotate_left; (focus simp only [pt, i64_w, i32_w]; rfl)
             refine pure_ (i := 2) (N := some 43) (v := ?_) (a' := ?_) spec_l10Grows.m31 rfl rfl (any_of HT_.out (by kernel_rfl)) (fun _ _ _ h => h) (Or.inl ⟨by rfl, ?_⟩) ?_ ?_; rotate_left; (focus intro w'; go_simp; with_reducible rfl); rotate_left; (focus simp only [pt, i64_w, i32_w]; rfl)
             refine pure_ (i := 6) (N := some 47) (v := ?_) (a' := ?_) spec_l10Grows.m32 rfl rfl (any_of HT_.out (by kernel_rfl)) (fun _ _ _ h => h) (Or.inl ⟨by rfl, ?_⟩) ?_ ?_; rotate_left; (focus intro w'; go_simp; with_reducible rfl); rotate_left; (focus simp only [pt, i64_w, i32_w]; rfl)
             refine pure_ (i := 8) (N := some 49) (v := ?_) (a' := ?_) spec_l10Grows.m33 rfl rfl (any_of HT_.out (by kernel_rfl)) (fun _ _ _ h => h) (Or.inl ⟨by rfl, ?_⟩) ?_ ?_; rotate_left; (focus intro w'; go_simp; with_reducible rfl); rotate_left; (focus simp only [pt, i64_w, i32_w]; rfl)
             refine take_ (i := 1) (N := some 42) (v := ?_) (a' := ?_) spec_l10Grows.m34 rfl rfl (take_ofW HT_.out HW_.out (by kernel_rfl)) (fun _ _ _ h => h) (Or.inl ⟨by rfl, ?_⟩) hHeld ?_ ?_; rotate_left; (focus rintro w' ⟨s0, s1, s2, s3, s4, s5, s6, s7, s8, s9, s10, s11, s12, s13, s14, s15, s16, s17, s18, s19, s20, s21, s22, s23, s24, s25, s26, s27, s28, s29, s30, s31, s32, s33, s34, s35⟩; go_simp; with_reducible rfl); rotate_left; (focus simp only [pt, i64_w, i32_w]; rfl)
             refine pure_ (i := 3) (N := some 44) (v := ?_) (a' := ?_) spec_l10Grows.m35 rfl rfl (any_of HT_.out (by kernel_rfl)) (fun _ _ _ h => h) (Or.inl ⟨by rfl, ?_⟩) ?_ ?_; rotate_left; (focus intro w'; go_simp; with_reducible rfl); rotate_left; (focus simp only [pt, i64_w, i32_w]; rfl)
             refine pure_ (i := 4) (N := some 45) (v := ?_) (a' := ?_) spec_l10Grows.m36 rfl rfl (any_of HT_.out (by kernel_rfl)) (fun _ _ _ h => h) (Or.inl ⟨by rfl, ?_⟩) ?_ ?_; rotate_left; (focus intro w'; go_simp; with_reducible rfl); rotate_left; (focus simp only [pt, i64_w, i32_w]; rfl)
             refine take_ (i := 5) (N := some 46) (v := ?_) (a' := ?_) spec_l10Grows.m37 rfl rfl (take_ofW HT_.out HW_.out (by kernel_rfl)) (fun _ _ _ h => h) (Or.inl ⟨by rfl, ?_⟩) hHeld ?_ ?_; rotate_left; (focus rintro w' ⟨s0, s1, s2, s3, s4, s5, s6, s7, s8, s9, s10, s11, s12, s13, s14, s15, s16, s17, s18, s19, s20, s21, s22, s23, s24, s25, s26, s27, s28, s29, s30, s31, s32, s33, s34, s35⟩; go_simp; with_reducible rfl); rotate_left; (focus simp only [pt, i64_w, i32_w]; rfl)
             refine take_ (i := 7) (N := some 48) (v := ?_) (a' := ?_) spec_l10Grows.m38 rfl rfl (take_ofW HT_.out HW_.out (by kernel_rfl)) (fun _ _ _ h => h) (Or.inl ⟨by rfl, ?_⟩) hHeld ?_ ?_; rotate_left; (focus rintro w' ⟨s0, s1, s2, s3, s4, s5, s6, s7, s8, s9, s10, s11, s12, s13, s14, s15, s16, s17, s18, s19, s20, s21, s22, s23, s24, s25, s26, s27, s28, s29, s30, s31, s32, s33, s34, s35⟩; go_simp; with_reducible rfl); rotate_left; (focus simp only [pt, i64_w, i32_w]; rfl)
             refine pure_ (i := 9) (N := some 50) (v := ?_) (a' := ?_) spec_l10Grows.m39 rfl rfl (any_of HT_.out (by kernel_rfl)) (fun _ _ _ h => h) (Or.inl ⟨by rfl, ?_⟩) ?_ ?_; rotate_left; (focus intro w'; go_simp; with_reducible rfl); rotate_left; (focus simp only [pt, i64_w, i32_w]; rfl)
             refine pure_ (i := 10) (N := some 51) (v := ?_) (a' := ?_) spec_l10Grows.m40 rfl rfl (any_of HT_.out (by kernel_rfl)) (fun _ _ _ h => h) (Or.inl ⟨by rfl, ?_⟩) ?_ ?_; rotate_left; (focus intro w'; go_simp; with_reducible rfl); rotate_left; (focus simp only [pt, i64_w, i32_w]; rfl)
             refine take_ (i := 11) (N := some 52) (v := ?_) (a' := ?_) spec_l10Grows.m41 rfl rfl (take_ofW HT_.out HW_.out (by kernel_rfl)) (fun _ _ _ h => h) (Or.inl ⟨by rfl, ?_⟩) hHeld ?_ ?_; rotate_left; (focus rintro w' ⟨s0, s1, s2, s3, s4, s5, s6, s7, s8, s9, s10, s11, s12, s13, s14, s15, s16, s17, s18, s19, s20, s21, s22, s23, s24, s25, s26, s27, s28, s29, s30, s31, s32, s33, s34, s35⟩; go_simp; with_reducible rfl); rotate_left; (focus simp only [pt, i64_w, i32_w]; rfl)
             refine pure_ (i := 12) (N := some 53) (v := ?_) (a' := ?_) spec_l10Grows.m42 rfl rfl (any_of HT_.out (by kernel_rfl)) (fun _ _ _ h => h) (Or.inl ⟨by rfl, ?_⟩) ?_ ?_; rotate_left; (focus intro w'; go_simp; with_reducible rfl); rotate_left; (focus simp only [pt, i64_w, i32_w]; rfl)
             refine pure_ (i := 13) (N := some 54) (v := ?_) (a' := ?_) spec_l10Grows.m43 rfl rfl (any_of HT_.out (by kernel_rfl)) (fun _ _ _ h => h) (Or.inl ⟨by rfl, ?_⟩) ?_ ?_; rotate_left; (focus intro w'; go_simp; with_reducible rfl); rotate_left; (focus simp only [pt, i64_w, i32_w]; rfl)
             refine pure_ (i := 14) (N := some 55) (v := ?_) (a' := ?_) spec_l10Grows.m44 rfl rfl (any_of HT_.out (by kernel_rfl)) (fun _ _ _ h => h) (Or.inl ⟨by rfl, ?_⟩) ?_ ?_; rotate_left; (focus intro w'; go_simp; with_reducible rfl); rotate_left; (focus simp only [pt, i64_w, i32_w]; rfl)
             refine pure_ (i := 16) (N := some 57) (v := ?_) (a' := ?_) spec_l10Grows.m45 rfl rfl (any_of HT_.out (by kernel_rfl)) (fun _ _ _ h => h) (Or.inl ⟨by rfl, ?_⟩) ?_ ?_; rotate_left; (focus intro w'; go_simp; with_reducible rfl); rotate_left; (focus simp only [pt, i64_w, i32_w]; rfl)
             refine pure_ (i := 20) (N := some 61) (v := ?_) (a' := ?_) spec_l10Grows.m46 rfl rfl (any_of HT_.out (by kernel_rfl)) (fun _ _ _ h => h) (Or.inl ⟨by rfl, ?_⟩) ?_ ?_; rotate_left; (focus intro w'; go_simp; with_reducible rfl); rotate_left; (focus simp only [pt, i64_w, i32_w]; rfl)
             refine pure_ (i := 22) (N := some 63) (v := ?_) (a' := ?_) spec_l10Grows.m47 rfl rfl (any_of HT_.out (by kernel_rfl)) (fun _ _ _ h => h) (Or.inl ⟨by rfl, ?_⟩) ?_ ?_; rotate_left; (focus intro w'; go_simp; with_reducible rfl); rotate_left; (focus simp only [pt, i64_w, i32_w]; rfl)
             refine take_ (i := 15) (N := some 56) (v := ?_) (a' := ?_) spec_l10Grows.m48 rfl rfl (take_ofW HT_.out HW_.out (by kernel_rfl)) (fun _ _ _ h => h) (Or.inl ⟨by rfl, ?_⟩) hHeld ?_ ?_; rotate_left; (focus rintro w' ⟨s0, s1, s2, s3, s4, s5, s6, s7, s8, s9, s10, s11, s12, s13, s14, s15, s16, s17, s18, s19, s20, s21, s22, s23, s24, s25, s26, s27, s28, s29, s30, s31, s32, s33, s34, s35⟩; go_simp; with_reducible rfl); rotate_left; (focus simp only [pt, i64_w, i32_w]; rfl)
             refine pure_ (i := 17) (N := some 58) (v := ?_) (a' := ?_) spec_l10Grows.m49 rfl rfl (any_of HT_.out (by kernel_rfl)) (fun _ _ _ h => h) (Or.inl ⟨by rfl, ?_⟩) ?_ ?_; rotate_left; (focus intro w'; go_simp; with_reducible rfl); rotate_left; (focus simp only [pt, i64_w, i32_w]; rfl)
             refine pure_ (i := 18) (N := some 59) (v := ?_) (a' := ?_) spec_l10Grows.m50 rfl rfl (any_of HT_.out (by kernel_rfl)) (fun _ _ _ h => h) (Or.inl ⟨by rfl, ?_⟩) ?_ ?_; rotate_left; (focus intro w'; go_simp; with_reducible rfl); rotate_left; (focus simp only [pt, i64_w, i32_w]; rfl)
             refine take_ (i := 19) (N := some 60) (v := ?_) (a' := ?_) spec_l10Grows.m51 rfl rfl (take_ofW HT_.out HW_.out (by kernel_rfl)) (fun _ _ _ h => h) (Or.inl ⟨by rfl, ?_⟩) hHeld ?_ ?_; rotate_left; (focus rintro w' ⟨s0, s1, s2, s3, s4, s5, s6, s7, s8, s9, s10, s11, s12, s13, s14, s15, s16, s17, s18, s19, s20, s21, s22, s23, s24, s25, s26, s27, s28, s29, s30, s31, s32, s33, s34, s35⟩; go_simp; with_reducible rfl); rotate_left; (focus simp only [pt, i64_w, i32_w]; rfl)
             refine take_ (i := 21) (N := some 62) (v := ?_) (a' := ?_) spec_l10Grows.m52 rfl rfl (take_ofW HT_.out HW_.out (by kernel_rfl)) (fun _ _ _ h => h) (Or.inl ⟨by rfl, ?_⟩) hHeld ?_ ?_; rotate_left; (focus rintro w' ⟨s0, s1, s2, s3, s4, s5, s6, s7, s8, s9, s10, s11, s12, s13, s14, s15, s16, s17, s18, s19, s20, s21, s22, s23, s24, s25, s26, s27, s28, s29, s30, s31, s32, s33, s34, s35⟩; go_simp; with_reducible rfl); rotate_left; (focus simp only [pt, i64_w, i32_w]; rfl)
             refine pure_ (i := 23) (N := some 64) (v := ?_) (a' := ?_) spec_l10Grows.m53 rfl rfl (any_of HT_.out (by kernel_rfl)) (fun _ _ _ h => h) (Or.inl ⟨by rfl, ?_⟩) ?_ ?_; rotate_left; (focus intro w'; go_simp; with_reducible rfl); rotate_left; (focus simp only [pt, i64_w, i32_w]; rfl)
             refine pure_ (i := 24) (N := some 65) (v := ?_) (a' := ?_) spec_l10Grows.m54 rfl rfl (any_of HT_.out (by kernel_rfl)) (fun _ _ _ h => h) (Or.inl ⟨by rfl, ?_⟩) ?_ ?_; rotate_left; (focus intro w'; go_simp; with_reducible rfl); rotate_left; (focus simp only [pt, i64_w, i32_w]; rfl)
             refine take_ (i := 25) (N := some 66) (v := ?_) (a' := ?_) spec_l10Grows.m55 rfl rfl (take_ofW HT_.out HW_.out (by kernel_rfl)) (fun _ _ _ h => h) (Or.inl ⟨by rfl, ?_⟩) hHeld ?_ ?_; rotate_left; (focus rintro w' ⟨s0, s1, s2, s3, s4, s5, s6, s7, s8, s9, s10, s11, s12, s13, s14, s15, s16, s17, s18, s19, s20, s21, s22, s23, s24, s25, s26, s27, s28, s29, s30, s31, s32, s33, s34, s35⟩; go_simp; with_reducible rfl); rotate_left; (focus simp only [pt, i64_w, i32_w]; rfl)
             refine pure_ (i := 26) (N := some 67) (v := ?_) (a' := ?_) spec_l10Grows.m56 rfl rfl (any_of HT_.out (by kernel_rfl)) (fun _ _ _ h => h) (Or.inl ⟨by rfl, ?_⟩) ?_ ?_; rotate_left; (focus intro w'; go_simp; with_reducible rfl); rotate_left; (focus simp only [pt, i64_w, i32_w]; rfl)
             refine pure_ (i := 27) (N := some 68) (v := ?_) (a' := ?_) spec_l10Grows.m57 rfl rfl (any_of HT_.out (by kernel_rfl)) (fun _ _ _ h => h) (Or.inl ⟨by rfl, ?_⟩) ?_ ?_; rotate_left; (focus intro w'; go_simp; with_reducible rfl); rotate_left; (focus simp only [pt, i64_w, i32_w]; rfl)
             refine pure_ (i := 28) (N := some 69) (v := ?_) (a' := ?_) spec_l10Grows.m58 rfl rfl (any_of HT_.out (by kernel_rfl)) (fun _ _ _ h => h) (Or.inl ⟨by rfl, ?_⟩) ?_ ?_; rotate_left; (focus intro w'; go_simp; with_reducible rfl); rotate_left; (focus simp only [pt, i64_w, i32_w]; rfl)
             refine pure_ (i := 29) (N := some 70) (v := ?_) (a' := ?_) spec_l10Grows.m59 rfl rfl (any_of HT_.out (by kernel_rfl)) (fun _ _ _ h => h) (Or.inl ⟨by rfl, ?_⟩) ?_ ?_; rotate_left; (focus intro w'; go_simp; with_reducible rfl); rotate_left; (focus simp only [pt, i64_w, i32_w]; rfl)
             refine pure_ (i := 31) (N := some 72) (v := ?_) (a' := ?_) spec_l10Grows.m86 rfl rfl (any_of HT_.out (by kernel_rfl)) (fun _ _ _ h => h) (Or.inl ⟨by rfl, ?_⟩) ?_ ?_; rotate_left; (focus intro w'; go_simp; with_reducible rfl); rotate_left; (focus simp only [pt, i64_w, i32_w]; rfl)
             refine pure_ (i := 35) (N := some 76) (v := ?_) (a' := ?_) spec_l10Grows.m87 rfl rfl (any_of HT_.out (by kernel_rfl)) (fun _ _ _ h => h) (Or.inl ⟨by rfl, ?_⟩) ?_ ?_; rotate_left; (focus intro w'; go_simp; with_reducible rfl); rotate_left; (focus simp only [pt, i64_w, i32_w]; rfl)
             refine pure_ (i := 37) (N := some 78) (v := ?_) (a' := ?_) spec_l10Grows.m88 rfl rfl (any_of HT_.out (by kernel_rfl)) (fun _ _ _ h => h) (Or.inl ⟨by rfl, ?_⟩) ?_ ?_; rotate_left; (focus intro w'; go_simp; with_reducible rfl); rotate_left; (focus simp only [pt, i64_w, i32_w]; rfl)
             refine take_ (i := 30) (N := some 71) (v := ?_) (a' := ?_) spec_l10Grows.m89 rfl rfl (take_ofW HT_.out HW_.out (by kernel_rfl)) (fun _ _ _ h => h) (Or.inl ⟨by rfl, ?_⟩) hHeld ?_ ?_; rotate_left; (focus rintro w' ⟨s0, s1, s2, s3, s4, s5, s6, s7, s8, s9, s10, s11, s12, s13, s14, s15, s16, s17, s18, s19, s20, s21, s22, s23, s24, s25, s26, s27, s28, s29, s30, s31, s32, s33, s34, s35⟩; go_simp; with_reducible rfl); rotate_left; (focus simp only [pt, i64_w, i32_w]; rfl)
             refine pure_ (i := 32) (N := some 73) (v := ?_) (a' := ?_) spec_l10Grows.m90 rfl rfl (any_of HT_.out (by kernel_rfl)) (fun _ _ _ h => h) (Or.inl ⟨by rfl, ?_⟩) ?_ ?_; rotate_left; (focus intro w'; go_simp; with_reducible rfl); rotate_left; (focus simp only [pt, i64_w, i32_w]; rfl)
             refine pure_ (i := 33) (N := some 74) (v := ?_) (a' := ?_) spec_l10Grows.m91 rfl rfl (any_of HT_.out (by kernel_rfl)) (fun _ _ _ h => h) (Or.inl ⟨by rfl, ?_⟩) ?_ ?_; rotate_left; (focus intro w'; go_simp; with_reducible rfl); rotate_left; (focus simp only [pt, i64_w, i32_w]; rfl)
             refine take_ (i := 34) (N := some 75) (v := ?_) (a' := ?_) spec_l10Grows.m92 rfl rfl (take_ofW HT_.out HW_.out (by kernel_rfl)) (fun _ _ _ h => h) (Or.inl ⟨by rfl, ?_⟩) hHeld ?_ ?_; rotate_left; (focus rintro w' ⟨s0, s1, s2, s3, s4, s5, s6, s7, s8, s9, s10, s11, s12, s13, s14, s15, s16, s17, s18, s19, s20, s21, s22, s23, s24, s25, s26, s27, s28, s29, s30, s31, s32, s33, s34, s35⟩; go_simp; with_reducible rfl); rotate_left; (focus simp only [pt, i64_w, i32_w]; rfl)
             refine take_ (i := 36) (N := some 77) (v := ?_) (a' := ?_) spec_l10Grows.m67 rfl rfl (take_ofW HT_.out HW_.out (by kernel_rfl)) (fun _ _ _ h => h) (Or.inl ⟨by rfl, ?_⟩) hHeld ?_ ?_; rotate_left; (focus rintro w' ⟨s0, s1, s2, s3, s4, s5, s6, s7, s8, s9, s10, s11, s12, s13, s14, s15, s16, s17, s18, s19, s20, s21, s22, s23, s24, s25, s26, s27, s28, s29, s30, s31, s32, s33, s34, s35⟩; go_simp; with_reducible rfl); rotate_left; (focus simp only [pt, i64_w, i32_w]; rfl)
             refine pure_ (i := 38) (N := some 79) (v := ?_) (a' := ?_) spec_l10Grows.m68 rfl rfl (any_of HT_.out (by kernel_rfl)) (fun _ _ _ h => h) (Or.inl ⟨by rfl, ?_⟩) ?_ ?_; rotate_left; (focus intro w'; go_simp; with_reducible rfl); rotate_left; (focus simp only [pt, i64_w, i32_w]; rfl)
             refine pure_ (i := 39) (N := some 80) (v := ?_) (a' := ?_) spec_l10Grows.m69 rfl rfl (any_of HT_.out (by kernel_rfl)) (fun _ _ _ h => h) (Or.inl ⟨by rfl, ?_⟩) ?_ ?_; rotate_left; (focus intro w'; go_simp; with_reducible rfl); rotate_left; (focus simp only [pt, i64_w, i32_w]; rfl)
             refine take_ (i := 40) (N := some 81) (v := ?_) (a' := ?_) spec_l10Grows.m70 rfl rfl (take_ofW HT_.out HW_.out (by kernel_rfl)) (fun _ _ _ h => h) (Or.inl ⟨by rfl, ?_⟩) hHeld ?_ ?_; rotate_left; (focus rintro w' ⟨s0, s1, s2, s3, s4, s5, s6, s7, s8, s9, s10, s11, s12, s13, s14, s15, s16, s17, s18, s19, s20, s21, s22, s23, s24, s25, s26, s27, s28, s29, s30, s31, s32, s33, s34, s35⟩; go_simp; with_reducible rfl); rotate_left; (focus simp only [pt, i64_w, i32_w]; rfl)
             refine pure_ (i := 41) (N := some 82) (v := ?_) (a' := ?_) spec_l10Grows.m71 rfl rfl (any_of HT_.out (by kernel_rfl)) (fun _ _ _ h => h) (Or.inl ⟨by rfl, ?_⟩) ?_ ?_; rotate_left; (focus intro w'; go_simp; with_reducible rfl); rotate_left; (focus simp only [pt, i64_w, i32_w]; rfl)
             refine pure_ (i := 42) (N := some 83) (v := ?_) (a' := ?_) spec_l10Grows.m72 rfl rfl (any_of HT_.out (by kernel_rfl)) (fun _ _ _ h => h) (Or.inl ⟨by rfl, ?_⟩) ?_ ?_; rotate_left; (focus intro w'; go_simp; with_reducible rfl); rotate_left; (focus simp only [pt, i64_w, i32_w]; rfl)
             refine pure_ (i := 43) (N := some 84) (v := ?_) (a' := ?_) spec_l10Grows.m73 rfl rfl (any_of HT_.out (by kernel_rfl)) (fun _ _ _ h => h) (Or.inl ⟨by rfl, ?_⟩) ?_ ?_; rotate_left; (focus intro w'; go_simp; with_reducible rfl); rotate_left; (focus simp only [pt, i64_w, i32_w]; rfl)
             refine pure_ (i := 45) (N := some 86) (v := ?_) (a' := ?_) spec_l10Grows.m93 rfl rfl (any_of HT_.out (by kernel_rfl)) (fun _ _ _ h => h) (Or.inl ⟨by rfl, ?_⟩) ?_ ?_; rotate_left; (focus intro w'; go_simp; with_reducible rfl); rotate_left; (focus simp only [pt, i64_w, i32_w]; rfl)
             refine pure_ (i := 48) (N := some 89) (v := ?_) (a' := ?_) spec_l10Grows.m94 rfl rfl (any_of HT_.out (by kernel_rfl)) (fun _ _ _ h => h) (Or.inl ⟨by rfl, ?_⟩) ?_ ?_; rotate_left; (focus intro w'; go_simp; with_reducible rfl); rotate_left; (focus simp only [pt, i64_w, i32_w]; rfl)
             refine pure_ (i := 50) (N := some 91) (v := ?_) (a' := ?_) spec_l10Grows.m95 rfl rfl (any_of HT_.out (by kernel_rfl)) (fun _ _ _ h => h) (Or.inl ⟨by rfl, ?_⟩) ?_ ?_; rotate_left; (focus intro w'; go_simp; with_reducible rfl); rotate_left; (focus simp only [pt, i64_w, i32_w]; rfl)
             refine take_ (i := 44) (N := some 85) (v := ?_) (a' := ?_) spec_l10Grows.m96 rfl rfl (take_ofW HT_.out HW_.out (by kernel_rfl)) (fun _ _ _ h => h) (Or.inl ⟨by rfl, ?_⟩) hHeld ?_ ?_; rotate_left; (focus rintro w' ⟨s0, s1, s2, s3, s4, s5, s6, s7, s8, s9, s10, s11, s12, s13, s14, s15, s16, s17, s18, s19, s20, s21, s22, s23, s24, s25, s26, s27, s28, s29, s30, s31, s32, s33, s34, s35⟩; go_simp; with_reducible rfl); rotate_left; (focus simp only [pt, i64_w, i32_w]; rfl)
             refine pure_ (i := 46) (N := some 87) (v := ?_) (a' := ?_) spec_l10Grows.m97 rfl rfl (any_of HT_.out (by kernel_rfl)) (fun _ _ _ h => h) (Or.inl ⟨by rfl, ?_⟩) ?_ ?_; rotate_left; (focus intro w'; go_simp; with_reducible rfl); rotate_left; (focus simp only [pt, i64_w, i32_w]; rfl)
             refine take_ (i := 47) (N := some 88) (v := ?_) (a' := ?_) spec_l10Grows.m98 rfl rfl (take_ofW HT_.out HW_.out (by kernel_rfl)) (fun _ _ _ h => h) (Or.inl ⟨by rfl, ?_⟩) hHeld ?_ ?_; rotate_left; (focus rintro w' ⟨s0, s1, s2, s3, s4, s5, s6, s7, s8, s9, s10, s11, s12, s13, s14, s15, s16, s17, s18, s19, s20, s21, s22, s23, s24, s25, s26, s27, s28, s29, s30, s31, s32, s33, s34, s35⟩; go_simp; with_reducible rfl); rotate_left; (focus simp only [pt, i64_w, i32_w]; rfl)
             refine take_ (i := 49) (N := some 90) (v := ?_) (a' := ?_) spec_l10Grows.m80 rfl rfl (take_ofW HT_.out HW_.out (by kernel_rfl)) (fun _ _ _ h => h) (Or.inl ⟨by rfl, ?_⟩) hHeld ?_ ?_; rotate_left; (focus rintro w' ⟨s0, s1, s2, s3, s4, s5, s6, s7, s8, s9, s10, s11, s12, s13, s14, s15, s16, s17, s18, s19, s20, s21, s22, s23, s24, s25, s26, s27, s28, s29, s30, s31, s32, s33, s34, s35⟩; go_simp; with_reducible rfl); rotate_left; (focus simp only [pt, i64_w, i32_w]; rfl)
             refine pure_ (i := 51) (N := some 92) (v := ?_) (a' := ?_) spec_l10Grows.m81 rfl rfl (any_of HT_.out (by kernel_rfl)) (fun _ _ _ h => h) (Or.inl ⟨by rfl, ?_⟩) ?_ ?_; rotate_left; (focus intro w'; go_simp; with_reducible rfl); rotate_left; (focus simp only [pt, i64_w, i32_w]; rfl)
             refine take_ (i := 52) (N := some 93) (v := ?_) (a' := ?_) spec_l10Grows.m82 rfl rfl (take_ofW HT_.out HW_.out (by kernel_rfl)) (fun _ _ _ h => h) (Or.inl ⟨by rfl, ?_⟩) hHeld ?_ ?_; rotate_left; (focus rintro w' ⟨s0, s1, s2, s3, s4, s5, s6, s7, s8, s9, s10, s11, s12, s13, s14, s15, s16, s17, s18, s19, s20, s21, s22, s23, s24, s25, s26, s27, s28, s29, s30, s31, s32, s33, s34, s35⟩; go_simp; with_reducible rfl); rotate_left; (focus simp only [pt, i64_w, i32_w]; rfl)
             refine pure_ (i := 53) (N := some 94) (v := ?_) (a' := ?_) spec_l10Grows.m83 rfl rfl (any_of HT_.out (by kernel_rfl)) (fun _ _ _ h => h) (Or.inl ⟨by rfl, ?_⟩) ?_ ?_; rotate_left; (focus intro w'; go_simp; with_reducible rfl); rotate_left; (focus simp only [pt, i64_w, i32_w]; rfl)
             refine pure_ (i := 54) (N := some 95) (v := ?_) (a' := ?_) spec_l10Grows.m84 rfl rfl (any_of HT_.out (by kernel_rfl)) (fun _ _ _ h => h) (Or.inl ⟨by rfl, ?_⟩) ?_ ?_; rotate_left; (focus intro w'; go_simp; with_reducible rfl); rotate_left; (focus simp only [pt, i64_w, i32_w]; rfl)
             refine pure_ (i := 55) (N := some 96) (v := ?_) (a' := ?_) spec_l10Grows.m85 rfl rfl (any_of HT_.out (by kernel_rfl)) (fun _ _ _ h => h) (Or.inl ⟨by rfl, ?_⟩) ?_ ?_; rotate_left; (focus intro w'; go_simp; with_reducible rfl); rotate_left; (focus simp only [pt, i64_w, i32_w]; rfl)
             refine done_ (done_of HT_.out (by kernel_rfl)) ?_
             try go_wp2
             go_ret
             exact ⟨rE, bW⟩
            ·rw [if_neg c26] at H
             have c26b0 : ((!((((rd_T178 l1_1 x5_2).f1) == ((rd_T178 l0_1 x5_2).f1)))) || ((!((((rd_T178 l1_1 x5_2).f3) == ((rd_T178 l0_1 x5_2).f3)))))) = false := by simpa using c26
             clear c26
             have H' := Aside0.mk H
             clear H
             have hnb30 := NB779_780.out
             have hnc30 := NB780_779.out
             have hcz31_0 : wr.cell? ⟨gb779, 0, none⟩ = some (.slice A0_0 l0_0.length c0_0) := (blk_cell BK779.out 0).trans rfl
             have hcz31_1 : wr.cell? ⟨gb779, 1, none⟩ = some (.slice A0_1 l0_1.length c0_1) := (blk_cell BK779.out 1).trans rfl
             have hfz31_0 := fz1 BK779
             have hfz31_1 := blk_frozen BK779.out 1
             try go_wp2
             have n0_ := Aside0.mk (blk_drew BK779.out)
             have n1_ := Aside0.mk (blk_drew BK780.out)
             have n2_ := Aside0.mk (below_drew1 HB.out)
             clear BK779
             clear BK780
             clear HB
             have BK779 := n0_
             have BK780 := n1_
             have HB := n2_
             clear n0_ n1_ n2_
             have p786 : 0 ≤ (x5_2 : Int) := odt
             have q786 : x5_2 < (l1_1.length : Int) := odt
             obtain ⟨ad786, e786, hx786_0, hx786_1, hx786_2, hx786_3⟩ := at_T178 HR1_1.out x5_2 p786 q786
             have hw786_3 := hx786_3
             have hw786_2 := hx786_2
             have hw786_1 := hx786_1
             have hw786_0 := hx786_0
             cases e786
             replace hx786_0 := (HB.out.cell (World.block_lt_of_cell? w _ hx786_0)).trans hx786_0
             replace hx786_1 := (HB.out.cell (World.block_lt_of_cell? w _ hx786_1)).trans hx786_1
             replace hx786_2 := (HB.out.cell (World.block_lt_of_cell? w _ hx786_2)).trans hx786_2
             replace hx786_3 := (HB.out.cell (World.block_lt_of_cell? w _ hx786_3)).trans hx786_3
             replace p786 := eq_true p786
             replace q786 := eq_true q786
             have p787 : 0 ≤ (x5_2 : Int) := odt
             have q787 : x5_2 < (l0_1.length : Int) := odt
             obtain ⟨ad787, e787, hx787_0, hx787_1, hx787_2, hx787_3⟩ := at_T178 HR0_1.out x5_2 p787 q787
             have hw787_3 := hx787_3
             have hw787_2 := hx787_2
             have hw787_1 := hx787_1
             have hw787_0 := hx787_0
             cases e787
             replace hx787_0 := (HB.out.cell (World.block_lt_of_cell? w _ hx787_0)).trans hx787_0
             replace hx787_1 := (HB.out.cell (World.block_lt_of_cell? w _ hx787_1)).trans hx787_1
             replace hx787_2 := (HB.out.cell (World.block_lt_of_cell? w _ hx787_2)).trans hx787_2
             replace hx787_3 := (HB.out.cell (World.block_lt_of_cell? w _ hx787_3)).trans hx787_3
             replace p787 := eq_true p787
             replace q787 := eq_true q787
             have p788 : 0 ≤ (x5_2 : Int) := odt
             have q788 : x5_2 < (l1_1.length : Int) := odt
             obtain ⟨ad788, e788, hx788_0, hx788_1, hx788_2, hx788_3⟩ := at_T178 HR1_1.out x5_2 p788 q788
             have hw788_3 := hx788_3
             have hw788_2 := hx788_2
             have hw788_1 := hx788_1
             have hw788_0 := hx788_0
             obtain rfl : ad786 = ad788 := (by injection e788)
             replace hx788_0 := (HB.out.cell (World.block_lt_of_cell? w _ hx788_0)).trans hx788_0
             replace hx788_1 := (HB.out.cell (World.block_lt_of_cell? w _ hx788_1)).trans hx788_1
             replace hx788_2 := (HB.out.cell (World.block_lt_of_cell? w _ hx788_2)).trans hx788_2
             replace hx788_3 := (HB.out.cell (World.block_lt_of_cell? w _ hx788_3)).trans hx788_3
             replace p788 := eq_true p788
             replace q788 := eq_true q788
             have p789 : 0 ≤ (x5_2 : Int) := odt
             have q789 : x5_2 < (l0_1.length : Int) := odt
             obtain ⟨ad789, e789, hx789_0, hx789_1, hx789_2, hx789_3⟩ := at_T178 HR0_1.out x5_2 p789 q789
             have hw789_3 := hx789_3
             have hw789_2 := hx789_2
             have hw789_1 := hx789_1
             have hw789_0 := hx789_0
             obtain rfl : ad787 = ad789 := (by injection e789)
             replace hx789_0 := (HB.out.cell (World.block_lt_of_cell? w _ hx789_0)).trans hx789_0
             replace hx789_1 := (HB.out.cell (World.block_lt_of_cell? w _ hx789_1)).trans hx789_1
             replace hx789_2 := (HB.out.cell (World.block_lt_of_cell? w _ hx789_2)).trans hx789_2
             replace hx789_3 := (HB.out.cell (World.block_lt_of_cell? w _ hx789_3)).trans hx789_3
             replace p789 := eq_true p789
             replace q789 := eq_true q789
             have p790 : 0 ≤ (x5_2 : Int) := odt
             have q790 : x5_2 < (l1_1.length : Int) := odt
             obtain ⟨ad790, e790, hx790_0, hx790_1, hx790_2, hx790_3⟩ := at_T178 HR1_1.out x5_2 p790 q790
             have hw790_3 := hx790_3
             have hw790_2 := hx790_2
             have hw790_1 := hx790_1
             have hw790_0 := hx790_0
             obtain rfl : ad786 = ad790 := (by injection e790)
             replace hx790_0 := (HB.out.cell (World.block_lt_of_cell? w _ hx790_0)).trans hx790_0
             replace hx790_1 := (HB.out.cell (World.block_lt_of_cell? w _ hx790_1)).trans hx790_1
             replace hx790_2 := (HB.out.cell (World.block_lt_of_cell? w _ hx790_2)).trans hx790_2
             replace hx790_3 := (HB.out.cell (World.block_lt_of_cell? w _ hx790_3)).trans hx790_3
             replace p790 := eq_true p790
             replace q790 := eq_true q790
             have p791 : 0 ≤ (x5_2 : Int) := odt
             have q791 : x5_2 < (l0_1.length : Int) := odt
             obtain ⟨ad791, e791, hx791_0, hx791_1, hx791_2, hx791_3⟩ := at_T178 HR0_1.out x5_2 p791 q791
             have hw791_3 := hx791_3
             have hw791_2 := hx791_2
             have hw791_1 := hx791_1
             have hw791_0 := hx791_0
             obtain rfl : ad787 = ad791 := (by injection e791)
             replace hx791_0 := (HB.out.cell (World.block_lt_of_cell? w _ hx791_0)).trans hx791_0
             replace hx791_1 := (HB.out.cell (World.block_lt_of_cell? w _ hx791_1)).trans hx791_1
             replace hx791_2 := (HB.out.cell (World.block_lt_of_cell? w _ hx791_2)).trans hx791_2
             replace hx791_3 := (HB.out.cell (World.block_lt_of_cell? w _ hx791_3)).trans hx791_3
             replace p791 := eq_true p791
             replace q791 := eq_true q791
             have p792 : 0 ≤ (x5_2 : Int) := odt
             have q792 : x5_2 < (l1_1.length : Int) := odt
             obtain ⟨ad792, e792, hx792_0, hx792_1, hx792_2, hx792_3⟩ := at_T178 HR1_1.out x5_2 p792 q792
             have hw792_3 := hx792_3
             have hw792_2 := hx792_2
             have hw792_1 := hx792_1
             have hw792_0 := hx792_0
             obtain rfl : ad786 = ad792 := (by injection e792)
             replace hx792_0 := (HB.out.cell (World.block_lt_of_cell? w _ hx792_0)).trans hx792_0
             replace hx792_1 := (HB.out.cell (World.block_lt_of_cell? w _ hx792_1)).trans hx792_1
             replace hx792_2 := (HB.out.cell (World.block_lt_of_cell? w _ hx792_2)).trans hx792_2
             replace hx792_3 := (HB.out.cell (World.block_lt_of_cell? w _ hx792_3)).trans hx792_3
             replace p792 := eq_true p792
             replace q792 := eq_true q792
             have p793 : 0 ≤ (x5_2 : Int) := odt
             have q793 : x5_2 < (l0_1.length : Int) := odt
             obtain ⟨ad793, e793, hx793_0, hx793_1, hx793_2, hx793_3⟩ := at_T178 HR0_1.out x5_2 p793 q793
             have hw793_3 := hx793_3
             have hw793_2 := hx793_2
             have hw793_1 := hx793_1
             have hw793_0 := hx793_0
             obtain rfl : ad787 = ad793 := (by injection e793)
             replace hx793_0 := (HB.out.cell (World.block_lt_of_cell? w _ hx793_0)).trans hx793_0
             replace hx793_1 := (HB.out.cell (World.block_lt_of_cell? w _ hx793_1)).trans hx793_1
             replace hx793_2 := (HB.out.cell (World.block_lt_of_cell? w _ hx793_2)).trans hx793_2
             replace hx793_3 := (HB.out.cell (World.block_lt_of_cell? w _ hx793_3)).trans hx793_3
             replace p793 := eq_true p793
             replace q793 := eq_true q793
             refine start_ (n := 56) (S := fun w' => w'.cell? ⟨gb780, 0, none⟩ = some (.slice A1_0 l1_0.length c1_0) ∧ w'.cell? ⟨gb780, 1, none⟩ = some (.slice (some ad786) l1_1.length c1_1) ∧ w'.cell? ⟨gb779, 0, none⟩ = some (.slice A0_0 l0_0.length c0_0) ∧ w'.cell? ⟨gb779, 1, none⟩ = some (.slice (some ad787) l0_1.length c0_1) ∧ w'.cell? (ad786.add ((x5_2).toNat * 4)) = some (.string ((rd_T178 l1_1 x5_2).f0)) ∧ w'.cell? ⟨(ad786.add ((x5_2).toNat * 4)).block, (ad786.add ((x5_2).toNat * 4)).off + 1, none⟩ = some (.int .i64 ((rd_T178 l1_1 x5_2).f1)) ∧ w'.cell? ⟨(ad786.add ((x5_2).toNat * 4)).block, (ad786.add ((x5_2).toNat * 4)).off + 2, none⟩ = some (.int .i64 ((rd_T178 l1_1 x5_2).f2)) ∧ w'.cell? ⟨(ad786.add ((x5_2).toNat * 4)).block, (ad786.add ((x5_2).toNat * 4)).off + 3, none⟩ = some (.bool ((rd_T178 l1_1 x5_2).f3)) ∧ w'.cell? (ad787.add ((x5_2).toNat * 4)) = some (.string ((rd_T178 l0_1 x5_2).f0)) ∧ w'.cell? ⟨(ad787.add ((x5_2).toNat * 4)).block, (ad787.add ((x5_2).toNat * 4)).off + 1, none⟩ = some (.int .i64 ((rd_T178 l0_1 x5_2).f1)) ∧ w'.cell? ⟨(ad787.add ((x5_2).toNat * 4)).block, (ad787.add ((x5_2).toNat * 4)).off + 2, none⟩ = some (.int .i64 ((rd_T178 l0_1 x5_2).f2)) ∧ w'.cell? ⟨(ad787.add ((x5_2).toNat * 4)).block, (ad787.add ((x5_2).toNat * 4)).off + 3, none⟩ = some (.bool ((rd_T178 l0_1 x5_2).f3)) ∧ w'.cell? (ad786.add ((x5_2).toNat * 4)) = some (.string ((rd_T178 l1_1 x5_2).f0)) ∧ w'.cell? ⟨(ad786.add ((x5_2).toNat * 4)).block, (ad786.add ((x5_2).toNat * 4)).off + 1, none⟩ = some (.int .i64 ((rd_T178 l1_1 x5_2).f1)) ∧ w'.cell? ⟨(ad786.add ((x5_2).toNat * 4)).block, (ad786.add ((x5_2).toNat * 4)).off + 2, none⟩ = some (.int .i64 ((rd_T178 l1_1 x5_2).f2)) ∧ w'.cell? ⟨(ad786.add ((x5_2).toNat * 4)).block, (ad786.add ((x5_2).toNat * 4)).off + 3, none⟩ = some (.bool ((rd_T178 l1_1 x5_2).f3)) ∧ w'.cell? (ad787.add ((x5_2).toNat * 4)) = some (.string ((rd_T178 l0_1 x5_2).f0)) ∧ w'.cell? ⟨(ad787.add ((x5_2).toNat * 4)).block, (ad787.add ((x5_2).toNat * 4)).off + 1, none⟩ = some (.int .i64 ((rd_T178 l0_1 x5_2).f1)) ∧ w'.cell? ⟨(ad787.add ((x5_2).toNat * 4)).block, (ad787.add ((x5_2).toNat * 4)).off + 2, none⟩ = some (.int .i64 ((rd_T178 l0_1 x5_2).f2)) ∧ w'.cell? ⟨(ad787.add ((x5_2).toNat * 4)).block, (ad787.add ((x5_2).toNat * 4)).off + 3, none⟩ = some (.bool ((rd_T178 l0_1 x5_2).f3)) ∧ w'.cell? (ad786.add ((x5_2).toNat * 4)) = some (.string ((rd_T178 l1_1 x5_2).f0)) ∧ w'.cell? ⟨(ad786.add ((x5_2).toNat * 4)).block, (ad786.add ((x5_2).toNat * 4)).off + 1, none⟩ = some (.int .i64 ((rd_T178 l1_1 x5_2).f1)) ∧ w'.cell? ⟨(ad786.add ((x5_2).toNat * 4)).block, (ad786.add ((x5_2).toNat * 4)).off + 2, none⟩ = some (.int .i64 ((rd_T178 l1_1 x5_2).f2)) ∧ w'.cell? ⟨(ad786.add ((x5_2).toNat * 4)).block, (ad786.add ((x5_2).toNat * 4)).off + 3, none⟩ = some (.bool ((rd_T178 l1_1 x5_2).f3)) ∧ w'.cell? (ad787.add ((x5_2).toNat * 4)) = some (.string ((rd_T178 l0_1 x5_2).f0)) ∧ w'.cell? ⟨(ad787.add ((x5_2).toNat * 4)).block, (ad787.add ((x5_2).toNat * 4)).off + 1, none⟩ = some (.int .i64 ((rd_T178 l0_1 x5_2).f1)) ∧ w'.cell? ⟨(ad787.add ((x5_2).toNat * 4)).block, (ad787.add ((x5_2).toNat * 4)).off + 2, none⟩ = some (.int .i64 ((rd_T178 l0_1 x5_2).f2)) ∧ w'.cell? ⟨(ad787.add ((x5_2).toNat * 4)).block, (ad787.add ((x5_2).toNat * 4)).off + 3, none⟩ = some (.bool ((rd_T178 l0_1 x5_2).f3)) ∧ w'.cell? (ad786.add ((x5_2).toNat * 4)) = some (.string ((rd_T178 l1_1 x5_2).f0)) ∧ w'.cell? ⟨(ad786.add ((x5_2).toNat * 4)).block, (ad786.add ((x5_2).toNat * 4)).off + 1, none⟩ = some (.int .i64 ((rd_T178 l1_1 x5_2).f1)) ∧ w'.cell? ⟨(ad786.add ((x5_2).toNat * 4)).block, (ad786.add ((x5_2).toNat * 4)).off + 2, none⟩ = some (.int .i64 ((rd_T178 l1_1 x5_2).f2)) ∧ w'.cell? ⟨(ad786.add ((x5_2).toNat * 4)).block, (ad786.add ((x5_2).toNat * 4)).off + 3, none⟩ = some (.bool ((rd_T178 l1_1 x5_2).f3)) ∧ w'.cell? (ad787.add ((x5_2).toNat * 4)) = some (.string ((rd_T178 l0_1 x5_2).f0)) ∧ w'.cell? ⟨(ad787.add ((x5_2).toNat * 4)).block, (ad787.add ((x5_2).toNat * 4)).off + 1, none⟩ = some (.int .i64 ((rd_T178 l0_1 x5_2).f1)) ∧ w'.cell? ⟨(ad787.add ((x5_2).toNat * 4)).block, (ad787.add ((x5_2).toNat * 4)).off + 2, none⟩ = some (.int .i64 ((rd_T178 l0_1 x5_2).f2)) ∧ w'.cell? ⟨(ad787.add ((x5_2).toNat * 4)).block, (ad787.add ((x5_2).toNat * 4)).off + 3, none⟩ = some (.bool ((rd_T178 l0_1 x5_2).f3))) (ds := []) spec_l10Grows.m29 (by kernel_rfl) rfl rfl ⟨(blk_cell BK780.out 0).trans rfl, (blk_cell BK780.out 1).trans rfl, (blk_cell BK779.out 0).trans rfl, (blk_cell BK779.out 1).trans rfl, ((HB.out.cell (World.block_lt_of_cell? w _ hw786_0)).trans hw786_0), ((HB.out.cell (World.block_lt_of_cell? w _ hw786_1)).trans hw786_1), ((HB.out.cell (World.block_lt_of_cell? w _ hw786_2)).trans hw786_2), ((HB.out.cell (World.block_lt_of_cell? w _ hw786_3)).trans hw786_3), ((HB.out.cell (World.block_lt_of_cell? w _ hw787_0)).trans hw787_0), ((HB.out.cell (World.block_lt_of_cell? w _ hw787_1)).trans hw787_1), ((HB.out.cell (World.block_lt_of_cell? w _ hw787_2)).trans hw787_2), ((HB.out.cell (World.block_lt_of_cell? w _ hw787_3)).trans hw787_3), ((HB.out.cell (World.block_lt_of_cell? w _ hw788_0)).trans hw788_0), ((HB.out.cell (World.block_lt_of_cell? w _ hw788_1)).trans hw788_1), ((HB.out.cell (World.block_lt_of_cell? w _ hw788_2)).trans hw788_2), ((HB.out.cell (World.block_lt_of_cell? w _ hw788_3)).trans hw788_3), ((HB.out.cell (World.block_lt_of_cell? w _ hw789_0)).trans hw789_0), ((HB.out.cell (World.block_lt_of_cell? w _ hw789_1)).trans hw789_1), ((HB.out.cell (World.block_lt_of_cell? w _ hw789_2)).trans hw789_2), ((HB.out.cell (World.block_lt_of_cell? w _ hw789_3)).trans hw789_3), ((HB.out.cell (World.block_lt_of_cell? w _ hw790_0)).trans hw790_0), ((HB.out.cell (World.block_lt_of_cell? w _ hw790_1)).trans hw790_1), ((HB.out.cell (World.block_lt_of_cell? w _ hw790_2)).trans hw790_2), ((HB.out.cell (World.block_lt_of_cell? w _ hw790_3)).trans hw790_3), ((HB.out.cell (World.block_lt_of_cell? w _ hw791_0)).trans hw791_0), ((HB.out.cell (World.block_lt_of_cell? w _ hw791_1)).trans hw791_1), ((HB.out.cell (World.block_lt_of_cell? w _ hw791_2)).trans hw791_2), ((HB.out.cell (World.block_lt_of_cell? w _ hw791_3)).trans hw791_3), ((HB.out.cell (World.block_lt_of_cell? w _ hw792_0)).trans hw792_0), ((HB.out.cell (World.block_lt_of_cell? w _ hw792_1)).trans hw792_1), ((HB.out.cell (World.block_lt_of_cell? w _ hw792_2)).trans hw792_2), ((HB.out.cell (World.block_lt_of_cell? w _ hw792_3)).trans hw792_3), ((HB.out.cell (World.block_lt_of_cell? w _ hw793_0)).trans hw793_0), ((HB.out.cell (World.block_lt_of_cell? w _ hw793_1)).trans hw793_1), ((HB.out.cell (World.block_lt_of_cell? w _ hw793_2)).trans hw793_2), ((HB.out.cell (World.block_lt_of_cell? w _ hw793_3)).trans hw793_3)⟩ (fun hHeld => ?_); refine with_tabW spec_l10Grows.tab6 spec_l10Grows.bits6 (fun HT_ HW_ => ?_)
             generalize wr.drew = w32 at BK779 BK780 HB hx786_0 hx786_1 hx786_2 hx786_3 hx787_0 hx787_1 hx787_2 hx787_3 hx788_0 hx788_1 hx788_2 hx788_3 hx789_0 hx789_1 hx789_2 hx789_3 hx790_0 hx790_1 hx790_2 hx790_3 hx791_0 hx791_1 hx791_2 hx791_3 hx792_0 hx792_1 hx792_2 hx792_3 hx793_0 hx793_1 hx793_2 hx793_3 hHeld ⊢
             refine pure_ (i := 0) (N := some 41) (v := ?_) (a' := ?_) spec_l10Grows.m30 rfl rfl (any_of HT_.out (by kernel_rfl)) (fun _ _ _ h => h) (Or.inl ⟨by rfl, ?_⟩) ?_ ?_; rotate_left; (focus intro w'; go_simp; with_reducible rfl); rotate_left; (focus simp only [pt, i64_w, i32_w]; rfl)
             refine pure_ (i := 2) (N := some 43) (v := ?_) (a' := ?_) spec_l10Grows.m31 rfl rfl (any_of HT_.out (by kernel_rfl)) (fun _ _ _ h => h) (Or.inl ⟨by rfl, ?_⟩) ?_ ?_; rotate_left; (focus intro w'; go_simp; with_reducible rfl); rotate_left; (focus simp only [pt, i64_w, i32_w]; rfl)
             refine pure_ (i := 6) (N := some 47) (v := ?_) (a' := ?_) spec_l10Grows.m32 rfl rfl (any_of HT_.out (by kernel_rfl)) (fun _ _ _ h => h) (Or.inl ⟨by rfl, ?_⟩) ?_ ?_; rotate_left; (focus intro w'; go_simp; with_reducible rfl); rotate_left; (focus simp only [pt, i64_w, i32_w]; rfl)
             refine pure_ (i := 8) (N := some 49) (v := ?_) (a' := ?_) spec_l10Grows.m33 rfl rfl (any_of HT_.out (by kernel_rfl)) (fun _ _ _ h => h) (Or.inl ⟨by rfl, ?_⟩) ?_ ?_; rotate_left; (focus intro w'; go_simp; with_reducible rfl); rotate_left; (focus simp only [pt, i64_w, i32_w]; rfl)
             refine take_ (i := 1) (N := some 42) (v := ?_) (a' := ?_) spec_l10Grows.m34 rfl rfl (take_ofW HT_.out HW_.out (by kernel_rfl)) (fun _ _ _ h => h) (Or.inl ⟨by rfl, ?_⟩) hHeld ?_ ?_; rotate_left; (focus rintro w' ⟨s0, s1, s2, s3, s4, s5, s6, s7, s8, s9, s10, s11, s12, s13, s14, s15, s16, s17, s18, s19, s20, s21, s22, s23, s24, s25, s26, s27, s28, s29, s30, s31, s32, s33, s34, s35⟩; go_simp; with_reducible rfl); rotate_left; (focus simp only [pt, i64_w, i32_w]; rfl)
             refine pure_ (i := 3) (N := some 44) (v := ?_) (a' := ?_) spec_l10Grows.m35 rfl rfl (any_of HT_.out (by kernel_rfl)) (fun _ _ _ h => h) (Or.inl ⟨by rfl, ?_⟩) ?_ ?_; rotate_left; (focus intro w'; go_simp; with_reducible rfl); rotate_left; (focus simp only [pt, i64_w, i32_w]; rfl)
             refine pure_ (i := 4) (N := some 45) (v := ?_) (a' := ?_) spec_l10Grows.m36 rfl rfl (any_of HT_.out (by kernel_rfl)) (fun _ _ _ h => h) (Or.inl ⟨by rfl, ?_⟩) ?_ ?_; rotate_left; (focus intro w'; go_simp; with_reducible rfl); rotate_left; (focus simp only [pt, i64_w, i32_w]; rfl)
             refine take_ (i := 5) (N := some 46) (v := ?_) (a' := ?_) spec_l10Grows.m37 rfl rfl (take_ofW HT_.out HW_.out (by kernel_rfl)) (fun _ _ _ h => h) (Or.inl ⟨by rfl, ?_⟩) hHeld ?_ ?_; rotate_left; (focus rintro w' ⟨s0, s1, s2, s3, s4, s5, s6, s7, s8, s9, s10, s11, s12, s13, s14, s15, s16, s17, s18, s19, s20, s21, s22, s23, s24, s25, s26, s27, s28, s29, s30, s31, s32, s33, s34, s35⟩; go_simp; with_reducible rfl); rotate_left; (focus simp only [pt, i64_w, i32_w]; rfl)
             refine take_ (i := 7) (N := some 48) (v := ?_) (a' := ?_) spec_l10Grows.m38 rfl rfl (take_ofW HT_.out HW_.out (by kernel_rfl)) (fun _ _ _ h => h) (Or.inl ⟨by rfl, ?_⟩) hHeld ?_ ?_; rotate_left; (focus rintro w' ⟨s0, s1, s2, s3, s4, s5, s6, s7, s8, s9, s10, s11, s12, s13, s14, s15, s16, s17, s18, s19, s20, s21, s22, s23, s24, s25, s26, s27, s28, s29, s30, s31, s32, s33, s34, s35⟩; go_simp; with_reducible rfl); rotate_left; (focus simp only [pt, i64_w, i32_w]; rfl)
             refine pure_ (i := 9) (N := some 50) (v := ?_) (a' := ?_) spec_l10Grows.m39 rfl rfl (any_of HT_.out (by kernel_rfl)) (fun _ _ _ h => h) (Or.inl ⟨by rfl, ?_⟩) ?_ ?_; rotate_left; (focus intro w'; go_simp; with_reducible rfl); rotate_left; (focus simp only [pt, i64_w, i32_w]; rfl)
             refine pure_ (i := 10) (N := some 51) (v := ?_) (a' := ?_) spec_l10Grows.m40 rfl rfl (any_of HT_.out (by kernel_rfl)) (fun _ _ _ h => h) (Or.inl ⟨by rfl, ?_⟩) ?_ ?_; rotate_left; (focus intro w'; go_simp; with_reducible rfl); rotate_left; (focus simp only [pt, i64_w, i32_w]; rfl)
             refine take_ (i := 11) (N := some 52) (v := ?_) (a' := ?_) spec_l10Grows.m41 rfl rfl (take_ofW HT_.out HW_.out (by kernel_rfl)) (fun _ _ _ h => h) (Or.inl ⟨by rfl, ?_⟩) hHeld ?_ ?_; rotate_left; (focus rintro w' ⟨s0, s1, s2, s3, s4, s5, s6, s7, s8, s9, s10, s11, s12, s13, s14, s15, s16, s17, s18, s19, s20, s21, s22, s23, s24, s25, s26, s27, s28, s29, s30, s31, s32, s33, s34, s35⟩; go_simp; with_reducible rfl); rotate_left; (focus simp only [pt, i64_w, i32_w]; rfl)
             refine pure_ (i := 12) (N := some 53) (v := ?_) (a' := ?_) spec_l10Grows.m42 rfl rfl (any_of HT_.out (by kernel_rfl)) (fun _ _ _ h => h) (Or.inl ⟨by rfl, ?_⟩) ?_ ?_; rotate_left; (focus intro w'; go_simp; with_reducible rfl); rotate_left; (focus simp only [pt, i64_w, i32_w]; rfl)
             refine pure_ (i := 13) (N := some 54) (v := ?_) (a' := ?_) spec_l10Grows.m43 rfl rfl (any_of HT_.out (by kernel_rfl)) (fun _ _ _ h => h) (Or.inl ⟨by rfl, ?_⟩) ?_ ?_; rotate_left; (focus intro w'; go_simp; with_reducible rfl); rotate_left; (focus simp only [pt, i64_w, i32_w]; rfl)
             refine pure_ (i := 14) (N := some 55) (v := ?_) (a' := ?_) spec_l10Grows.m44 rfl rfl (any_of HT_.out (by kernel_rfl)) (fun _ _ _ h => h) (Or.inl ⟨by rfl, ?_⟩) ?_ ?_; rotate_left; (focus intro w'; go_simp; with_reducible rfl); rotate_left; (focus simp only [pt, i64_w, i32_w]; rfl)
             refine pure_ (i := 16) (N := some 57) (v := ?_) (a' := ?_) spec_l10Grows.m45 rfl rfl (any_of HT_.out (by kernel_rfl)) (fun _ _ _ h => h) (Or.inl ⟨by rfl, ?_⟩) ?_ ?_; rotate_left; (focus intro w'; go_simp; with_reducible rfl); rotate_left; (focus simp only [pt, i64_w, i32_w]; rfl)
             refine pure_ (i := 20) (N := some 61) (v := ?_) (a' := ?_) spec_l10Grows.m46 rfl rfl (any_of HT_.out (by kernel_rfl)) (fun _ _ _ h => h) (Or.inl ⟨by rfl, ?_⟩) ?_ ?_; rotate_left; (focus intro w'; go_simp; with_reducible rfl); rotate_left; (focus simp only [pt, i64_w, i32_w]; rfl)
             refine pure_ (i := 22) (N := some 63) (v := ?_) (a' := ?_) spec_l10Grows.m47 rfl rfl (any_of HT_.out (by kernel_rfl)) (fun _ _ _ h => h) (Or.inl ⟨by rfl, ?_⟩) ?_ ?_; rotate_left; (focus intro w'; go_simp; with_reducible rfl); rotate_left; (focus simp only [pt, i64_w, i32_w]; rfl)
             refine take_ (i := 15) (N := some 56) (v := ?_) (a' := ?_) spec_l10Grows.m48 rfl rfl (take_ofW HT_.out HW_.out (by kernel_rfl)) (fun _ _ _ h => h) (Or.inl ⟨by rfl, ?_⟩) hHeld ?_ ?_; rotate_left; (focus rintro w' ⟨s0, s1, s2, s3, s4, s5, s6, s7, s8, s9, s10, s11, s12, s13, s14, s15, s16, s17, s18, s19, s20, s21, s22, s23, s24, s25, s26, s27, s28, s29, s30, s31, s32, s33, s34, s35⟩; go_simp; with_reducible rfl); rotate_left; (focus simp only [pt, i64_w, i32_w]; rfl)
             refine pure_ (i := 17) (N := some 58) (v := ?_) (a' := ?_) spec_l10Grows.m49 rfl rfl (any_of HT_.out (by kernel_rfl)) (fun _ _ _ h => h) (Or.inl ⟨by rfl, ?_⟩) ?_ ?_; rotate_left; (focus intro w'; go_simp; with_reducible rfl); rotate_left; (focus simp only [pt, i64_w, i32_w]; rfl)
             refine pure_ (i := 18) (N := some 59) (v := ?_) (a' := ?_) spec_l10Grows.m50 rfl rfl (any_of HT_.out (by kernel_rfl)) (fun _ _ _ h => h) (Or.inl ⟨by rfl, ?_⟩) ?_ ?_; rotate_left; (focus intro w'; go_simp; with_reducible rfl); rotate_left; (focus simp only [pt, i64_w, i32_w]; rfl)
             refine take_ (i := 19) (N := some 60) (v := ?_) (a' := ?_) spec_l10Grows.m51 rfl rfl (take_ofW HT_.out HW_.out (by kernel_rfl)) (fun _ _ _ h => h) (Or.inl ⟨by rfl, ?_⟩) hHeld ?_ ?_; rotate_left; (focus rintro w' ⟨s0, s1, s2, s3, s4, s5, s6, s7, s8, s9, s10, s11, s12, s13, s14, s15, s16, s17, s18, s19, s20, s21, s22, s23, s24, s25, s26, s27, s28, s29, s30, s31, s32, s33, s34, s35⟩; go_simp; with_reducible rfl); rotate_left; (focus simp only [pt, i64_w, i32_w]; rfl)
             refine take_ (i := 21) (N := some 62) (v := ?_) (a' := ?_) spec_l10Grows.m52 rfl rfl (take_ofW HT_.out HW_.out (by kernel_rfl)) (fun _ _ _ h => h) (Or.inl ⟨by rfl, ?_⟩) hHeld ?_ ?_; rotate_left; (focus rintro w' ⟨s0, s1, s2, s3, s4, s5, s6, s7, s8, s9, s10, s11, s12, s13, s14, s15, s16, s17, s18, s19, s20, s21, s22, s23, s24, s25, s26, s27, s28, s29, s30, s31, s32, s33, s34, s35⟩; go_simp; with_reducible rfl); rotate_left; (focus simp only [pt, i64_w, i32_w]; rfl)
             refine pure_ (i := 23) (N := some 64) (v := ?_) (a' := ?_) spec_l10Grows.m53 rfl rfl (any_of HT_.out (by kernel_rfl)) (fun _ _ _ h => h) (Or.inl ⟨by rfl, ?_⟩) ?_ ?_; rotate_left; (focus intro w'; go_simp; with_reducible rfl); rotate_left; (focus simp only [pt, i64_w, i32_w]; rfl)
             refine pure_ (i := 24) (N := some 65) (v := ?_) (a' := ?_) spec_l10Grows.m54 rfl rfl (any_of HT_.out (by kernel_rfl)) (fun _ _ _ h => h) (Or.inl ⟨by rfl, ?_⟩) ?_ ?_; rotate_left; (focus intro w'; go_simp; with_reducible rfl); rotate_left; (focus simp only [pt, i64_w, i32_w]; rfl)
             refine take_ (i := 25) (N := some 66) (v := ?_) (a' := ?_) spec_l10Grows.m55 rfl rfl (take_ofW HT_.out HW_.out (by kernel_rfl)) (fun _ _ _ h => h) (Or.inl ⟨by rfl, ?_⟩) hHeld ?_ ?_; rotate_left; (focus rintro w' ⟨s0, s1, s2, s3, s4, s5, s6, s7, s8, s9, s10, s11, s12, s13, s14, s15, s16, s17, s18, s19, s20, s21, s22, s23, s24, s25, s26, s27, s28, s29, s30, s31, s32, s33, s34, s35⟩; go_simp; with_reducible rfl); rotate_left; (focus simp only [pt, i64_w, i32_w]; rfl)
             refine pure_ (i := 26) (N := some 67) (v := ?_) (a' := ?_) spec_l10Grows.m56 rfl rfl (any_of HT_.out (by kernel_rfl)) (fun _ _ _ h => h) (Or.inl ⟨by rfl, ?_⟩) ?_ ?_; rotate_left; (focus intro w'; go_simp; with_reducible rfl); rotate_left; (focus simp only [pt, i64_w, i32_w]; rfl)
             refine pure_ (i := 27) (N := some 68) (v := ?_) (a' := ?_) spec_l10Grows.m57 rfl rfl (any_of HT_.out (by kernel_rfl)) (fun _ _ _ h => h) (Or.inl ⟨by rfl, ?_⟩) ?_ ?_; rotate_left; (focus intro w'; go_simp; with_reducible rfl); rotate_left; (focus simp only [pt, i64_w, i32_w]; rfl)
             refine pure_ (i := 28) (N := some 69) (v := ?_) (a' := ?_) spec_l10Grows.m58 rfl rfl (any_of HT_.out (by kernel_rfl)) (fun _ _ _ h => h) (Or.inl ⟨by rfl, ?_⟩) ?_ ?_; rotate_left; (focus intro w'; go_simp; with_reducible rfl); rotate_left; (focus simp only [pt, i64_w, i32_w]; rfl)
             refine pure_ (i := 29) (N := some 70) (v := ?_) (a' := ?_) spec_l10Grows.m59 rfl rfl (any_of HT_.out (by kernel_rfl)) (fun _ _ _ h => h) (Or.inl ⟨by rfl, ?_⟩) ?_ ?_; rotate_left; (focus intro w'; go_simp; with_reducible rfl); rotate_left; (focus simp only [pt, i64_w, i32_w]; rfl)
             refine pure_ (i := 31) (N := some 72) (v := ?_) (a' := ?_) spec_l10Grows.m86 rfl rfl (any_of HT_.out (by kernel_rfl)) (fun _ _ _ h => h) (Or.inl ⟨by rfl, ?_⟩) ?_ ?_; rotate_left; (focus intro w'; go_simp; with_reducible rfl); rotate_left; (focus simp only [pt, i64_w, i32_w]; rfl)
             refine pure_ (i := 35) (N := some 76) (v := ?_) (a' := ?_) spec_l10Grows.m87 rfl rfl (any_of HT_.out (by kernel_rfl)) (fun _ _ _ h => h) (Or.inl ⟨by rfl, ?_⟩) ?_ ?_; rotate_left; (focus intro w'; go_simp; with_reducible rfl); rotate_left; (focus simp only [pt, i64_w, i32_w]; rfl)
             refine pure_ (i := 37) (N := some 78) (v := ?_) (a' := ?_) spec_l10Grows.m88 rfl rfl (any_of HT_.out (by kernel_rfl)) (fun _ _ _ h => h) (Or.inl ⟨by rfl, ?_⟩) ?_ ?_; rotate_left; (focus intro w'; go_simp; with_reducible rfl); rotate_left; (focus simp only [pt, i64_w, i32_w]; rfl)
             refine take_ (i := 30) (N := some 71) (v := ?_) (a' := ?_) spec_l10Grows.m89 rfl rfl (take_ofW HT_.out HW_.out (by kernel_rfl)) (fun _ _ _ h => h) (Or.inl ⟨by rfl, ?_⟩) hHeld ?_ ?_; rotate_left; (focus rintro w' ⟨s0, s1, s2, s3, s4, s5, s6, s7, s8, s9, s10, s11, s12, s13, s14, s15, s16, s17, s18, s19, s20, s21, s22, s23, s24, s25, s26, s27, s28, s29, s30, s31, s32, s33, s34, s35⟩; go_simp; with_reducible rfl); rotate_left; (focus simp only [pt, i64_w, i32_w]; rfl)
             refine pure_ (i := 32) (N := some 73) (v := ?_) (a' := ?_) spec_l10Grows.m90 rfl rfl (any_of HT_.out (by kernel_rfl)) (fun _ _ _ h => h) (Or.inl ⟨by rfl, ?_⟩) ?_ ?_; rotate_left; (focus intro w'; go_simp; with_reducible rfl); rotate_left; (focus simp only [pt, i64_w, i32_w]; rfl)
             refine pure_ (i := 33) (N := some 74) (v := ?_) (a' := ?_) spec_l10Grows.m91 rfl rfl (any_of HT_.out (by kernel_rfl)) (fun _ _ _ h => h) (Or.inl ⟨by rfl, ?_⟩) ?_ ?_; rotate_left; (focus intro w'; go_simp; with_reducible rfl); rotate_left; (focus simp only [pt, i64_w, i32_w]; rfl)
             refine take_ (i := 34) (N := some 75) (v := ?_) (a' := ?_) spec_l10Grows.m92 rfl rfl (take_ofW HT_.out HW_.out (by kernel_rfl)) (fun _ _ _ h => h) (Or.inl ⟨by rfl, ?_⟩) hHeld ?_ ?_; rotate_left; (focus rintro w' ⟨s0, s1, s2, s3, s4, s5, s6, s7, s8, s9, s10, s11, s12, s13, s14, s15, s16, s17, s18, s19, s20, s21, s22, s23, s24, s25, s26, s27, s28, s29, s30, s31, s32, s33, s34, s35⟩; go_simp; with_reducible rfl); rotate_left; (focus simp only [pt, i64_w, i32_w]; rfl)
             refine take_ (i := 36) (N := some 77) (v := ?_) (a' := ?_) spec_l10Grows.m67 rfl rfl (take_ofW HT_.out HW_.out (by kernel_rfl)) (fun _ _ _ h => h) (Or.inl ⟨by rfl, ?_⟩) hHeld ?_ ?_; rotate_left; (focus rintro w' ⟨s0, s1, s2, s3, s4, s5, s6, s7, s8, s9, s10, s11, s12, s13, s14, s15, s16, s17, s18, s19, s20, s21, s22, s23, s24, s25, s26, s27, s28, s29, s30, s31, s32, s33, s34, s35⟩; go_simp; with_reducible rfl); rotate_left; (focus simp only [pt, i64_w, i32_w]; rfl)
             refine pure_ (i := 38) (N := some 79) (v := ?_) (a' := ?_) spec_l10Grows.m68 rfl rfl (any_of HT_.out (by kernel_rfl)) (fun _ _ _ h => h) (Or.inl ⟨by rfl, ?_⟩) ?_ ?_; rotate_left; (focus intro w'; go_simp; with_reducible rfl); rotate_left; (focus simp only [pt, i64_w, i32_w]; rfl)
             refine pure_ (i := 39) (N := some 80) (v := ?_) (a' := ?_) spec_l10Grows.m69 rfl rfl (any_of HT_.out (by kernel_rfl)) (fun _ _ _ h => h) (Or.inl ⟨by rfl, ?_⟩) ?_ ?_; rotate_left; (focus intro w'; go_simp; with_reducible rfl); rotate_left; (focus simp only [pt, i64_w, i32_w]; rfl)
             refine take_ (i := 40) (N := some 81) (v := ?_) (a' := ?_) spec_l10Grows.m70 rfl rfl (take_ofW HT_.out HW_.out (by kernel_rfl)) (fun _ _ _ h => h) (Or.inl ⟨by rfl, ?_⟩) hHeld ?_ ?_; rotate_left; (focus rintro w' ⟨s0, s1, s2, s3, s4, s5, s6, s7, s8, s9, s10, s11, s12, s13, s14, s15, s16, s17, s18, s19, s20, s21, s22, s23, s24, s25, s26, s27, s28, s29, s30, s31, s32, s33, s34, s35⟩; go_simp; with_reducible rfl); rotate_left; (focus simp only [pt, i64_w, i32_w]; rfl)
             refine pure_ (i := 41) (N := some 82) (v := ?_) (a' := ?_) spec_l10Grows.m71 rfl rfl (any_of HT_.out (by kernel_rfl)) (fun _ _ _ h => h) (Or.inl ⟨by rfl, ?_⟩) ?_ ?_; rotate_left; (focus intro w'; go_simp; with_reducible rfl); rotate_left; (focus simp only [pt, i64_w, i32_w]; rfl)
             refine pure_ (i := 42) (N := some 83) (v := ?_) (a' := ?_) spec_l10Grows.m72 rfl rfl (any_of HT_.out (by kernel_rfl)) (fun _ _ _ h => h) (Or.inl ⟨by rfl, ?_⟩) ?_ ?_; rotate_left; (focus intro w'; go_simp; with_reducible rfl); rotate_left; (focus simp only [pt, i64_w, i32_w]; rfl)
             refine pure_ (i := 43) (N := some 84) (v := ?_) (a' := ?_) spec_l10Grows.m73 rfl rfl (any_of HT_.out (by kernel_rfl)) (fun _ _ _ h => h) (Or.inl ⟨by rfl, ?_⟩) ?_ ?_; rotate_left; (focus intro w'; go_simp; with_reducible rfl); rotate_left; (focus simp only [pt, i64_w, i32_w]; rfl)
             refine pure_ (i := 45) (N := some 86) (v := ?_) (a' := ?_) spec_l10Grows.m93 rfl rfl (any_of HT_.out (by kernel_rfl)) (fun _ _ _ h => h) (Or.inl ⟨by rfl, ?_⟩) ?_ ?_; rotate_left; (focus intro w'; go_simp; with_reducible rfl); rotate_left; (focus simp only [pt, i64_w, i32_w]; rfl)
             refine pure_ (i := 48) (N := some 89) (v := ?_) (a' := ?_) spec_l10Grows.m94 rfl rfl (any_of HT_.out (by kernel_rfl)) (fun _ _ _ h => h) (Or.inl ⟨by rfl, ?_⟩) ?_ ?_; rotate_left; (focus intro w'; go_simp; with_reducible rfl); rotate_left; (focus simp only [pt, i64_w, i32_w]; rfl)
             refine pure_ (i := 50) (N := some 91) (v := ?_) (a' := ?_) spec_l10Grows.m95 rfl rfl (any_of HT_.out (by kernel_rfl)) (fun _ _ _ h => h) (Or.inl ⟨by rfl, ?_⟩) ?_ ?_; rotate_left; (focus intro w'; go_simp; with_reducible rfl); rotate_left; (focus simp only [pt, i64_w, i32_w]; rfl)
             refine take_ (i := 44) (N := some 85) (v := ?_) (a' := ?_) spec_l10Grows.m96 rfl rfl (take_ofW HT_.out HW_.out (by kernel_rfl)) (fun _ _ _ h => h) (Or.inl ⟨by rfl, ?_⟩) hHeld ?_ ?_; rotate_left; (focus rintro w' ⟨s0, s1, s2, s3, s4, s5, s6, s7, s8, s9, s10, s11, s12, s13, s14, s15, s16, s17, s18, s19, s20, s21, s22, s23, s24, s25, s26, s27, s28, s29, s30, s31, s32, s33, s34, s35⟩; go_simp; with_reducible rfl); rotate_left; (focus simp only [pt, i64_w, i32_w]; rfl)
             refine pure_ (i := 46) (N := some 87) (v := ?_) (a' := ?_) spec_l10Grows.m97 rfl rfl (any_of HT_.out (by kernel_rfl)) (fun _ _ _ h => h) (Or.inl ⟨by rfl, ?_⟩) ?_ ?_; rotate_left; (focus intro w'; go_simp; with_reducible rfl); rotate_left; (focus simp only [pt, i64_w, i32_w]; rfl)
             refine take_ (i := 47) (N := some 88) (v := ?_) (a' := ?_) spec_l10Grows.m98 rfl rfl (take_ofW HT_.out HW_.out (by kernel_rfl)) (fun _ _ _ h => h) (Or.inl ⟨by rfl, ?_⟩) hHeld ?_ ?_; rotate_left; (focus rintro w' ⟨s0, s1, s2, s3, s4, s5, s6, s7, s8, s9, s10, s11, s12, s13, s14, s15, s16, s17, s18, s19, s20, s21, s22, s23, s24, s25, s26, s27, s28, s29, s30, s31, s32, s33, s34, s35⟩; go_simp; with_reducible rfl); rotate_left; (focus simp only [pt, i64_w, i32_w]; rfl)
             refine take_ (i := 49) (N := some 90) (v := ?_) (a' := ?_) spec_l10Grows.m80 rfl rfl (take_ofW HT_.out HW_.out (by kernel_rfl)) (fun _ _ _ h => h) (Or.inl ⟨by rfl, ?_⟩) hHeld ?_ ?_; rotate_left; (focus rintro w' ⟨s0, s1, s2, s3, s4, s5, s6, s7, s8, s9, s10, s11, s12, s13, s14, s15, s16, s17, s18, s19, s20, s21, s22, s23, s24, s25, s26, s27, s28, s29, s30, s31, s32, s33, s34, s35⟩; go_simp; with_reducible rfl); rotate_left; (focus simp only [pt, i64_w, i32_w]; rfl)
             refine pure_ (i := 51) (N := some 92) (v := ?_) (a' := ?_) spec_l10Grows.m81 rfl rfl (any_of HT_.out (by kernel_rfl)) (fun _ _ _ h => h) (Or.inl ⟨by rfl, ?_⟩) ?_ ?_; rotate_left; (focus intro w'; go_simp; with_reducible rfl); rotate_left; (focus simp only [pt, i64_w, i32_w]; rfl)
             refine take_ (i := 52) (N := some 93) (v := ?_) (a' := ?_) spec_l10Grows.m82 rfl rfl (take_ofW HT_.out HW_.out (by kernel_rfl)) (fun _ _ _ h => h) (Or.inl ⟨by rfl, ?_⟩) hHeld ?_ ?_; rotate_left; (focus rintro w' ⟨s0, s1, s2, s3, s4, s5, s6, s7, s8, s9, s10, s11, s12, s13, s14, s15, s16, s17, s18, s19, s20, s21, s22, s23, s24, s25, s26, s27, s28, s29, s30, s31, s32, s33, s34, s35⟩; go_simp; with_reducible rfl); rotate_left; (focus simp only [pt, i64_w, i32_w]; rfl)
             refine pure_ (i := 53) (N := some 94) (v := ?_) (a' := ?_) spec_l10Grows.m83 rfl rfl (any_of HT_.out (by kernel_rfl)) (fun _ _ _ h => h) (Or.inl ⟨by rfl, ?_⟩) ?_ ?_; rotate_left; (focus intro w'; go_simp; with_reducible rfl); rotate_left; (focus simp only [pt, i64_w, i32_w]; rfl)
             refine pure_ (i := 54) (N := some 95) (v := ?_) (a' := ?_) spec_l10Grows.m84 rfl rfl (any_of HT_.out (by kernel_rfl)) (fun _ _ _ h => h) (Or.inl ⟨by rfl, ?_⟩) ?_ ?_; rotate_left; (focus intro w'; go_simp; with_reducible rfl); rotate_left; (focus simp only [pt, i64_w, i32_w]; rfl)
             refine pure_ (i := 55) (N := some 96) (v := ?_) (a' := ?_) spec_l10Grows.m85 rfl rfl (any_of HT_.out (by kernel_rfl)) (fun _ _ _ h => h) (Or.inl ⟨by rfl, ?_⟩) ?_ ?_; rotate_left; (focus intro w'; go_simp; with_reducible rfl); rotate_left; (focus simp only [pt, i64_w, i32_w]; rfl)
             refine done_ (done_of HT_.out (by kernel_rfl)) ?_
             try go_wp2
             go_roundg k2
             case measure => have := HJ2.out; have := HK2.out; omega
             case rel => exact ⟨(wrap64 (x5_2 + 1)), vE, H', ⟨by have := HJ2.out; have := HK2.out; omega⟩, ⟨by (with_reducible repeat (first | refine blk_drewN ?_ _ | refine blk_drew ?_ | refine blk_alloc ?_ _)); exact BK779.out⟩, ⟨by (with_reducible repeat (first | refine blk_drewN ?_ _ | refine blk_drew ?_ | refine blk_alloc ?_ _)); exact BK780.out⟩, ⟨bW⟩⟩
           ·rw [if_neg c25] at H
            have c25b0 : (((rd_T178 l1_1 x5_2).f2) == ((rd_T178 l0_1 x5_2).f2)) = false := beq_eq_false_iff_ne.mpr c25
            have c25b1 : (((rd_T178 l1_1 x5_2).f2) != ((rd_T178 l0_1 x5_2).f2)) = true := bne_iff_ne.mpr c25
            have H' := Aside0.mk H
            clear H
            have hnb33 := NB779_780.out
            have hnc33 := NB780_779.out
            have hcz34_0 : wr.cell? ⟨gb779, 0, none⟩ = some (.slice A0_0 l0_0.length c0_0) := (blk_cell BK779.out 0).trans rfl
            have hcz34_1 : wr.cell? ⟨gb779, 1, none⟩ = some (.slice A0_1 l0_1.length c0_1) := (blk_cell BK779.out 1).trans rfl
            have hfz34_0 := fz1 BK779
            have hfz34_1 := blk_frozen BK779.out 1
            try go_wp2
            have n0_ := Aside0.mk (blk_drew BK779.out)
            have n1_ := Aside0.mk (blk_drew BK780.out)
            have n2_ := Aside0.mk (below_drew1 HB.out)
            clear BK779
            clear BK780
            clear HB
            have BK779 := n0_
            have BK780 := n1_
            have HB := n2_
            clear n0_ n1_ n2_
            have p786 : 0 ≤ (x5_2 : Int) := odt
            have q786 : x5_2 < (l1_1.length : Int) := odt
            obtain ⟨ad786, e786, hx786_0, hx786_1, hx786_2, hx786_3⟩ := at_T178 HR1_1.out x5_2 p786 q786
            have hw786_3 := hx786_3
            have hw786_2 := hx786_2
            have hw786_1 := hx786_1
            have hw786_0 := hx786_0
            cases e786
            replace hx786_0 := (HB.out.cell (World.block_lt_of_cell? w _ hx786_0)).trans hx786_0
            replace hx786_1 := (HB.out.cell (World.block_lt_of_cell? w _ hx786_1)).trans hx786_1
            replace hx786_2 := (HB.out.cell (World.block_lt_of_cell? w _ hx786_2)).trans hx786_2
            replace hx786_3 := (HB.out.cell (World.block_lt_of_cell? w _ hx786_3)).trans hx786_3
            replace p786 := eq_true p786
            replace q786 := eq_true q786
            have p787 : 0 ≤ (x5_2 : Int) := odt
            have q787 : x5_2 < (l0_1.length : Int) := odt
            obtain ⟨ad787, e787, hx787_0, hx787_1, hx787_2, hx787_3⟩ := at_T178 HR0_1.out x5_2 p787 q787
            have hw787_3 := hx787_3
            have hw787_2 := hx787_2
            have hw787_1 := hx787_1
            have hw787_0 := hx787_0
            cases e787
            replace hx787_0 := (HB.out.cell (World.block_lt_of_cell? w _ hx787_0)).trans hx787_0
            replace hx787_1 := (HB.out.cell (World.block_lt_of_cell? w _ hx787_1)).trans hx787_1
            replace hx787_2 := (HB.out.cell (World.block_lt_of_cell? w _ hx787_2)).trans hx787_2
            replace hx787_3 := (HB.out.cell (World.block_lt_of_cell? w _ hx787_3)).trans hx787_3
            replace p787 := eq_true p787
            replace q787 := eq_true q787
            have p788 : 0 ≤ (x5_2 : Int) := odt
            have q788 : x5_2 < (l1_1.length : Int) := odt
            obtain ⟨ad788, e788, hx788_0, hx788_1, hx788_2, hx788_3⟩ := at_T178 HR1_1.out x5_2 p788 q788
            have hw788_3 := hx788_3
            have hw788_2 := hx788_2
            have hw788_1 := hx788_1
            have hw788_0 := hx788_0
            obtain rfl : ad786 = ad788 := (by injection e788)
            replace hx788_0 := (HB.out.cell (World.block_lt_of_cell? w _ hx788_0)).trans hx788_0
            replace hx788_1 := (HB.out.cell (World.block_lt_of_cell? w _ hx788_1)).trans hx788_1
            replace hx788_2 := (HB.out.cell (World.block_lt_of_cell? w _ hx788_2)).trans hx788_2
            replace hx788_3 := (HB.out.cell (World.block_lt_of_cell? w _ hx788_3)).trans hx788_3
            replace p788 := eq_true p788
            replace q788 := eq_true q788
            have p789 : 0 ≤ (x5_2 : Int) := odt
            have q789 : x5_2 < (l0_1.length : Int) := odt
            obtain ⟨ad789, e789, hx789_0, hx789_1, hx789_2, hx789_3⟩ := at_T178 HR0_1.out x5_2 p789 q789
            have hw789_3 := hx789_3
            have hw789_2 := hx789_2
            have hw789_1 := hx789_1
            have hw789_0 := hx789_0
            obtain rfl : ad787 = ad789 := (by injection e789)
            replace hx789_0 := (HB.out.cell (World.block_lt_of_cell? w _ hx789_0)).trans hx789_0
            replace hx789_1 := (HB.out.cell (World.block_lt_of_cell? w _ hx789_1)).trans hx789_1
            replace hx789_2 := (HB.out.cell (World.block_lt_of_cell? w _ hx789_2)).trans hx789_2
            replace hx789_3 := (HB.out.cell (World.block_lt_of_cell? w _ hx789_3)).trans hx789_3
            replace p789 := eq_true p789
            replace q789 := eq_true q789
            have p790 : 0 ≤ (x5_2 : Int) := odt
            have q790 : x5_2 < (l1_1.length : Int) := odt
            obtain ⟨ad790, e790, hx790_0, hx790_1, hx790_2, hx790_3⟩ := at_T178 HR1_1.out x5_2 p790 q790
            have hw790_3 := hx790_3
            have hw790_2 := hx790_2
            have hw790_1 := hx790_1
            have hw790_0 := hx790_0
            obtain rfl : ad786 = ad790 := (by injection e790)
            replace hx790_0 := (HB.out.cell (World.block_lt_of_cell? w _ hx790_0)).trans hx790_0
            replace hx790_1 := (HB.out.cell (World.block_lt_of_cell? w _ hx790_1)).trans hx790_1
            replace hx790_2 := (HB.out.cell (World.block_lt_of_cell? w _ hx790_2)).trans hx790_2
            replace hx790_3 := (HB.out.cell (World.block_lt_of_cell? w _ hx790_3)).trans hx790_3
            replace p790 := eq_true p790
            replace q790 := eq_true q790
            have p791 : 0 ≤ (x5_2 : Int) := odt
            have q791 : x5_2 < (l0_1.length : Int) := odt
            obtain ⟨ad791, e791, hx791_0, hx791_1, hx791_2, hx791_3⟩ := at_T178 HR0_1.out x5_2 p791 q791
            have hw791_3 := hx791_3
            have hw791_2 := hx791_2
            have hw791_1 := hx791_1
            have hw791_0 := hx791_0
            obtain rfl : ad787 = ad791 := (by injection e791)
            replace hx791_0 := (HB.out.cell (World.block_lt_of_cell? w _ hx791_0)).trans hx791_0
            replace hx791_1 := (HB.out.cell (World.block_lt_of_cell? w _ hx791_1)).trans hx791_1
            replace hx791_2 := (HB.out.cell (World.block_lt_of_cell? w _ hx791_2)).trans hx791_2
            replace hx791_3 := (HB.out.cell (World.block_lt_of_cell? w _ hx791_3)).trans hx791_3
            replace p791 := eq_true p791
            replace q791 := eq_true q791
            refine start_ (n := 56) (S := fun w' => w'.cell? ⟨gb780, 0, none⟩ = some (.slice A1_0 l1_0.length c1_0) ∧ w'.cell? ⟨gb780, 1, none⟩ = some (.slice (some ad786) l1_1.length c1_1) ∧ w'.cell? ⟨gb779, 0, none⟩ = some (.slice A0_0 l0_0.length c0_0) ∧ w'.cell? ⟨gb779, 1, none⟩ = some (.slice (some ad787) l0_1.length c0_1) ∧ w'.cell? (ad786.add ((x5_2).toNat * 4)) = some (.string ((rd_T178 l1_1 x5_2).f0)) ∧ w'.cell? ⟨(ad786.add ((x5_2).toNat * 4)).block, (ad786.add ((x5_2).toNat * 4)).off + 1, none⟩ = some (.int .i64 ((rd_T178 l1_1 x5_2).f1)) ∧ w'.cell? ⟨(ad786.add ((x5_2).toNat * 4)).block, (ad786.add ((x5_2).toNat * 4)).off + 2, none⟩ = some (.int .i64 ((rd_T178 l1_1 x5_2).f2)) ∧ w'.cell? ⟨(ad786.add ((x5_2).toNat * 4)).block, (ad786.add ((x5_2).toNat * 4)).off + 3, none⟩ = some (.bool ((rd_T178 l1_1 x5_2).f3)) ∧ w'.cell? (ad787.add ((x5_2).toNat * 4)) = some (.string ((rd_T178 l0_1 x5_2).f0)) ∧ w'.cell? ⟨(ad787.add ((x5_2).toNat * 4)).block, (ad787.add ((x5_2).toNat * 4)).off + 1, none⟩ = some (.int .i64 ((rd_T178 l0_1 x5_2).f1)) ∧ w'.cell? ⟨(ad787.add ((x5_2).toNat * 4)).block, (ad787.add ((x5_2).toNat * 4)).off + 2, none⟩ = some (.int .i64 ((rd_T178 l0_1 x5_2).f2)) ∧ w'.cell? ⟨(ad787.add ((x5_2).toNat * 4)).block, (ad787.add ((x5_2).toNat * 4)).off + 3, none⟩ = some (.bool ((rd_T178 l0_1 x5_2).f3)) ∧ w'.cell? (ad786.add ((x5_2).toNat * 4)) = some (.string ((rd_T178 l1_1 x5_2).f0)) ∧ w'.cell? ⟨(ad786.add ((x5_2).toNat * 4)).block, (ad786.add ((x5_2).toNat * 4)).off + 1, none⟩ = some (.int .i64 ((rd_T178 l1_1 x5_2).f1)) ∧ w'.cell? ⟨(ad786.add ((x5_2).toNat * 4)).block, (ad786.add ((x5_2).toNat * 4)).off + 2, none⟩ = some (.int .i64 ((rd_T178 l1_1 x5_2).f2)) ∧ w'.cell? ⟨(ad786.add ((x5_2).toNat * 4)).block, (ad786.add ((x5_2).toNat * 4)).off + 3, none⟩ = some (.bool ((rd_T178 l1_1 x5_2).f3)) ∧ w'.cell? (ad787.add ((x5_2).toNat * 4)) = some (.string ((rd_T178 l0_1 x5_2).f0)) ∧ w'.cell? ⟨(ad787.add ((x5_2).toNat * 4)).block, (ad787.add ((x5_2).toNat * 4)).off + 1, none⟩ = some (.int .i64 ((rd_T178 l0_1 x5_2).f1)) ∧ w'.cell? ⟨(ad787.add ((x5_2).toNat * 4)).block, (ad787.add ((x5_2).toNat * 4)).off + 2, none⟩ = some (.int .i64 ((rd_T178 l0_1 x5_2).f2)) ∧ w'.cell? ⟨(ad787.add ((x5_2).toNat * 4)).block, (ad787.add ((x5_2).toNat * 4)).off + 3, none⟩ = some (.bool ((rd_T178 l0_1 x5_2).f3)) ∧ w'.cell? (ad786.add ((x5_2).toNat * 4)) = some (.string ((rd_T178 l1_1 x5_2).f0)) ∧ w'.cell? ⟨(ad786.add ((x5_2).toNat * 4)).block, (ad786.add ((x5_2).toNat * 4)).off + 1, none⟩ = some (.int .i64 ((rd_T178 l1_1 x5_2).f1)) ∧ w'.cell? ⟨(ad786.add ((x5_2).toNat * 4)).block, (ad786.add ((x5_2).toNat * 4)).off + 2, none⟩ = some (.int .i64 ((rd_T178 l1_1 x5_2).f2)) ∧ w'.cell? ⟨(ad786.add ((x5_2).toNat * 4)).block, (ad786.add ((x5_2).toNat * 4)).off + 3, none⟩ = some (.bool ((rd_T178 l1_1 x5_2).f3)) ∧ w'.cell? (ad787.add ((x5_2).toNat * 4)) = some (.string ((rd_T178 l0_1 x5_2).f0)) ∧ w'.cell? ⟨(ad787.add ((x5_2).toNat * 4)).block, (ad787.add ((x5_2).toNat * 4)).off + 1, none⟩ = some (.int .i64 ((rd_T178 l0_1 x5_2).f1)) ∧ w'.cell? ⟨(ad787.add ((x5_2).toNat * 4)).block, (ad787.add ((x5_2).toNat * 4)).off + 2, none⟩ = some (.int .i64 ((rd_T178 l0_1 x5_2).f2)) ∧ w'.cell? ⟨(ad787.add ((x5_2).toNat * 4)).block, (ad787.add ((x5_2).toNat * 4)).off + 3, none⟩ = some (.bool ((rd_T178 l0_1 x5_2).f3))) (ds := []) spec_l10Grows.m29 (by kernel_rfl) rfl rfl ⟨(blk_cell BK780.out 0).trans rfl, (blk_cell BK780.out 1).trans rfl, (blk_cell BK779.out 0).trans rfl, (blk_cell BK779.out 1).trans rfl, ((HB.out.cell (World.block_lt_of_cell? w _ hw786_0)).trans hw786_0), ((HB.out.cell (World.block_lt_of_cell? w _ hw786_1)).trans hw786_1), ((HB.out.cell (World.block_lt_of_cell? w _ hw786_2)).trans hw786_2), ((HB.out.cell (World.block_lt_of_cell? w _ hw786_3)).trans hw786_3), ((HB.out.cell (World.block_lt_of_cell? w _ hw787_0)).trans hw787_0), ((HB.out.cell (World.block_lt_of_cell? w _ hw787_1)).trans hw787_1), ((HB.out.cell (World.block_lt_of_cell? w _ hw787_2)).trans hw787_2), ((HB.out.cell (World.block_lt_of_cell? w _ hw787_3)).trans hw787_3), ((HB.out.cell (World.block_lt_of_cell? w _ hw788_0)).trans hw788_0), ((HB.out.cell (World.block_lt_of_cell? w _ hw788_1)).trans hw788_1), ((HB.out.cell (World.block_lt_of_cell? w _ hw788_2)).trans hw788_2), ((HB.out.cell (World.block_lt_of_cell? w _ hw788_3)).trans hw788_3), ((HB.out.cell (World.block_lt_of_cell? w _ hw789_0)).trans hw789_0), ((HB.out.cell (World.block_lt_of_cell? w _ hw789_1)).trans hw789_1), ((HB.out.cell (World.block_lt_of_cell? w _ hw789_2)).trans hw789_2), ((HB.out.cell (World.block_lt_of_cell? w _ hw789_3)).trans hw789_3), ((HB.out.cell (World.block_lt_of_cell? w _ hw790_0)).trans hw790_0), ((HB.out.cell (World.block_lt_of_cell? w _ hw790_1)).trans hw790_1), ((HB.out.cell (World.block_lt_of_cell? w _ hw790_2)).trans hw790_2), ((HB.out.cell (World.block_lt_of_cell? w _ hw790_3)).trans hw790_3), ((HB.out.cell (World.block_lt_of_cell? w _ hw791_0)).trans hw791_0), ((HB.out.cell (World.block_lt_of_cell? w _ hw791_1)).trans hw791_1), ((HB.out.cell (World.block_lt_of_cell? w _ hw791_2)).trans hw791_2), ((HB.out.cell (World.block_lt_of_cell? w _ hw791_3)).trans hw791_3)⟩ (fun hHeld => ?_); refine with_tabW spec_l10Grows.tab6 spec_l10Grows.bits6 (fun HT_ HW_ => ?_)
            generalize wr.drew = w35 at BK779 BK780 HB hx786_0 hx786_1 hx786_2 hx786_3 hx787_0 hx787_1 hx787_2 hx787_3 hx788_0 hx788_1 hx788_2 hx788_3 hx789_0 hx789_1 hx789_2 hx789_3 hx790_0 hx790_1 hx790_2 hx790_3 hx791_0 hx791_1 hx791_2 hx791_3 hHeld ⊢
            refine pure_ (i := 0) (N := some 41) (v := ?_) (a' := ?_) spec_l10Grows.m30 rfl rfl (any_of HT_.out (by kernel_rfl)) (fun _ _ _ h => h) (Or.inl ⟨by rfl, ?_⟩) ?_ ?_; rotate_left; (focus intro w'; go_simp; with_reducible rfl); rotate_left; (focus simp only [pt, i64_w, i32_w]; rfl)
            refine pure_ (i := 2) (N := some 43) (v := ?_) (a' := ?_) spec_l10Grows.m31 rfl rfl (any_of HT_.out (by kernel_rfl)) (fun _ _ _ h => h) (Or.inl ⟨by rfl, ?_⟩) ?_ ?_; rotate_left; (focus intro w'; go_simp; with_reducible rfl); rotate_left; (focus simp only [pt, i64_w, i32_w]; rfl)
            refine pure_ (i := 6) (N := some 47) (v := ?_) (a' := ?_) spec_l10Grows.m32 rfl rfl (any_of HT_.out (by kernel_rfl)) (fun _ _ _ h => h) (Or.inl ⟨by rfl, ?_⟩) ?_ ?_; rotate_left; (focus intro w'; go_simp; with_reducible rfl); rotate_left; (focus simp only [pt, i64_w, i32_w]; rfl)
            refine pure_ (i := 8) (N := some 49) (v := ?_) (a' := ?_) spec_l10Grows.m33 rfl rfl (any_of HT_.out (by kernel_rfl)) (fun _ _ _ h => h) (Or.inl ⟨by rfl, ?_⟩) ?_ ?_; rotate_left; (focus intro w'; go_simp; with_reducible rfl); rotate_left; (focus simp only [pt, i64_w, i32_w]; rfl)
            refine take_ (i := 1) (N := some 42) (v := ?_) (a' := ?_) spec_l10Grows.m34 rfl rfl (take_ofW HT_.out HW_.out (by kernel_rfl)) (fun _ _ _ h => h) (Or.inl ⟨by rfl, ?_⟩) hHeld ?_ ?_; rotate_left; (focus rintro w' ⟨s0, s1, s2, s3, s4, s5, s6, s7, s8, s9, s10, s11, s12, s13, s14, s15, s16, s17, s18, s19, s20, s21, s22, s23, s24, s25, s26, s27⟩; go_simp; with_reducible rfl); rotate_left; (focus simp only [pt, i64_w, i32_w]; rfl)
            refine pure_ (i := 3) (N := some 44) (v := ?_) (a' := ?_) spec_l10Grows.m35 rfl rfl (any_of HT_.out (by kernel_rfl)) (fun _ _ _ h => h) (Or.inl ⟨by rfl, ?_⟩) ?_ ?_; rotate_left; (focus intro w'; go_simp; with_reducible rfl); rotate_left; (focus simp only [pt, i64_w, i32_w]; rfl)
            refine pure_ (i := 4) (N := some 45) (v := ?_) (a' := ?_) spec_l10Grows.m36 rfl rfl (any_of HT_.out (by kernel_rfl)) (fun _ _ _ h => h) (Or.inl ⟨by rfl, ?_⟩) ?_ ?_; rotate_left; (focus intro w'; go_simp; with_reducible rfl); rotate_left; (focus simp only [pt, i64_w, i32_w]; rfl)
            refine take_ (i := 5) (N := some 46) (v := ?_) (a' := ?_) spec_l10Grows.m37 rfl rfl (take_ofW HT_.out HW_.out (by kernel_rfl)) (fun _ _ _ h => h) (Or.inl ⟨by rfl, ?_⟩) hHeld ?_ ?_; rotate_left; (focus rintro w' ⟨s0, s1, s2, s3, s4, s5, s6, s7, s8, s9, s10, s11, s12, s13, s14, s15, s16, s17, s18, s19, s20, s21, s22, s23, s24, s25, s26, s27⟩; go_simp; with_reducible rfl); rotate_left; (focus simp only [pt, i64_w, i32_w]; rfl)
            refine take_ (i := 7) (N := some 48) (v := ?_) (a' := ?_) spec_l10Grows.m38 rfl rfl (take_ofW HT_.out HW_.out (by kernel_rfl)) (fun _ _ _ h => h) (Or.inl ⟨by rfl, ?_⟩) hHeld ?_ ?_; rotate_left; (focus rintro w' ⟨s0, s1, s2, s3, s4, s5, s6, s7, s8, s9, s10, s11, s12, s13, s14, s15, s16, s17, s18, s19, s20, s21, s22, s23, s24, s25, s26, s27⟩; go_simp; with_reducible rfl); rotate_left; (focus simp only [pt, i64_w, i32_w]; rfl)
            refine pure_ (i := 9) (N := some 50) (v := ?_) (a' := ?_) spec_l10Grows.m39 rfl rfl (any_of HT_.out (by kernel_rfl)) (fun _ _ _ h => h) (Or.inl ⟨by rfl, ?_⟩) ?_ ?_; rotate_left; (focus intro w'; go_simp; with_reducible rfl); rotate_left; (focus simp only [pt, i64_w, i32_w]; rfl)
            refine pure_ (i := 10) (N := some 51) (v := ?_) (a' := ?_) spec_l10Grows.m40 rfl rfl (any_of HT_.out (by kernel_rfl)) (fun _ _ _ h => h) (Or.inl ⟨by rfl, ?_⟩) ?_ ?_; rotate_left; (focus intro w'; go_simp; with_reducible rfl); rotate_left; (focus simp only [pt, i64_w, i32_w]; rfl)
            refine take_ (i := 11) (N := some 52) (v := ?_) (a' := ?_) spec_l10Grows.m41 rfl rfl (take_ofW HT_.out HW_.out (by kernel_rfl)) (fun _ _ _ h => h) (Or.inl ⟨by rfl, ?_⟩) hHeld ?_ ?_; rotate_left; (focus rintro w' ⟨s0, s1, s2, s3, s4, s5, s6, s7, s8, s9, s10, s11, s12, s13, s14, s15, s16, s17, s18, s19, s20, s21, s22, s23, s24, s25, s26, s27⟩; go_simp; with_reducible rfl); rotate_left; (focus simp only [pt, i64_w, i32_w]; rfl)
            refine pure_ (i := 12) (N := some 53) (v := ?_) (a' := ?_) spec_l10Grows.m42 rfl rfl (any_of HT_.out (by kernel_rfl)) (fun _ _ _ h => h) (Or.inl ⟨by rfl, ?_⟩) ?_ ?_; rotate_left; (focus intro w'; go_simp; with_reducible rfl); rotate_left; (focus simp only [pt, i64_w, i32_w]; rfl)
            refine pure_ (i := 13) (N := some 54) (v := ?_) (a' := ?_) spec_l10Grows.m43 rfl rfl (any_of HT_.out (by kernel_rfl)) (fun _ _ _ h => h) (Or.inl ⟨by rfl, ?_⟩) ?_ ?_; rotate_left; (focus intro w'; go_simp; with_reducible rfl); rotate_left; (focus simp only [pt, i64_w, i32_w]; rfl)
            refine pure_ (i := 14) (N := some 55) (v := ?_) (a' := ?_) spec_l10Grows.m44 rfl rfl (any_of HT_.out (by kernel_rfl)) (fun _ _ _ h => h) (Or.inl ⟨by rfl, ?_⟩) ?_ ?_; rotate_left; (focus intro w'; go_simp; with_reducible rfl); rotate_left; (focus simp only [pt, i64_w, i32_w]; rfl)
            refine pure_ (i := 16) (N := some 57) (v := ?_) (a' := ?_) spec_l10Grows.m45 rfl rfl (any_of HT_.out (by kernel_rfl)) (fun _ _ _ h => h) (Or.inl ⟨by rfl, ?_⟩) ?_ ?_; rotate_left; (focus intro w'; go_simp; with_reducible rfl); rotate_left; (focus simp only [pt, i64_w, i32_w]; rfl)
            refine pure_ (i := 20) (N := some 61) (v := ?_) (a' := ?_) spec_l10Grows.m46 rfl rfl (any_of HT_.out (by kernel_rfl)) (fun _ _ _ h => h) (Or.inl ⟨by rfl, ?_⟩) ?_ ?_; rotate_left; (focus intro w'; go_simp; with_reducible rfl); rotate_left; (focus simp only [pt, i64_w, i32_w]; rfl)
            refine pure_ (i := 22) (N := some 63) (v := ?_) (a' := ?_) spec_l10Grows.m47 rfl rfl (any_of HT_.out (by kernel_rfl)) (fun _ _ _ h => h) (Or.inl ⟨by rfl, ?_⟩) ?_ ?_; rotate_left; (focus intro w'; go_simp; with_reducible rfl); rotate_left; (focus simp only [pt, i64_w, i32_w]; rfl)
            refine take_ (i := 15) (N := some 56) (v := ?_) (a' := ?_) spec_l10Grows.m48 rfl rfl (take_ofW HT_.out HW_.out (by kernel_rfl)) (fun _ _ _ h => h) (Or.inl ⟨by rfl, ?_⟩) hHeld ?_ ?_; rotate_left; (focus rintro w' ⟨s0, s1, s2, s3, s4, s5, s6, s7, s8, s9, s10, s11, s12, s13, s14, s15, s16, s17, s18, s19, s20, s21, s22, s23, s24, s25, s26, s27⟩; go_simp; with_reducible rfl); rotate_left; (focus simp only [pt, i64_w, i32_w]; rfl)
            refine pure_ (i := 17) (N := some 58) (v := ?_) (a' := ?_) spec_l10Grows.m49 rfl rfl (any_of HT_.out (by kernel_rfl)) (fun _ _ _ h => h) (Or.inl ⟨by rfl, ?_⟩) ?_ ?_; rotate_left; (focus intro w'; go_simp; with_reducible rfl); rotate_left; (focus simp only [pt, i64_w, i32_w]; rfl)
            refine pure_ (i := 18) (N := some 59) (v := ?_) (a' := ?_) spec_l10Grows.m50 rfl rfl (any_of HT_.out (by kernel_rfl)) (fun _ _ _ h => h) (Or.inl ⟨by rfl, ?_⟩) ?_ ?_; rotate_left; (focus intro w'; go_simp; with_reducible rfl); rotate_left; (focus simp only [pt, i64_w, i32_w]; rfl)
            refine take_ (i := 19) (N := some 60) (v := ?_) (a' := ?_) spec_l10Grows.m51 rfl rfl (take_ofW HT_.out HW_.out (by kernel_rfl)) (fun _ _ _ h => h) (Or.inl ⟨by rfl, ?_⟩) hHeld ?_ ?_; rotate_left; (focus rintro w' ⟨s0, s1, s2, s3, s4, s5, s6, s7, s8, s9, s10, s11, s12, s13, s14, s15, s16, s17, s18, s19, s20, s21, s22, s23, s24, s25, s26, s27⟩; go_simp; with_reducible rfl); rotate_left; (focus simp only [pt, i64_w, i32_w]; rfl)
            refine take_ (i := 21) (N := some 62) (v := ?_) (a' := ?_) spec_l10Grows.m52 rfl rfl (take_ofW HT_.out HW_.out (by kernel_rfl)) (fun _ _ _ h => h) (Or.inl ⟨by rfl, ?_⟩) hHeld ?_ ?_; rotate_left; (focus rintro w' ⟨s0, s1, s2, s3, s4, s5, s6, s7, s8, s9, s10, s11, s12, s13, s14, s15, s16, s17, s18, s19, s20, s21, s22, s23, s24, s25, s26, s27⟩; go_simp; with_reducible rfl); rotate_left; (focus simp only [pt, i64_w, i32_w]; rfl)
            refine pure_ (i := 23) (N := some 64) (v := ?_) (a' := ?_) spec_l10Grows.m53 rfl rfl (any_of HT_.out (by kernel_rfl)) (fun _ _ _ h => h) (Or.inl ⟨by rfl, ?_⟩) ?_ ?_; rotate_left; (focus intro w'; go_simp; with_reducible rfl); rotate_left; (focus simp only [pt, i64_w, i32_w]; rfl)
            refine pure_ (i := 24) (N := some 65) (v := ?_) (a' := ?_) spec_l10Grows.m54 rfl rfl (any_of HT_.out (by kernel_rfl)) (fun _ _ _ h => h) (Or.inl ⟨by rfl, ?_⟩) ?_ ?_; rotate_left; (focus intro w'; go_simp; with_reducible rfl); rotate_left; (focus simp only [pt, i64_w, i32_w]; rfl)
            refine take_ (i := 25) (N := some 66) (v := ?_) (a' := ?_) spec_l10Grows.m55 rfl rfl (take_ofW HT_.out HW_.out (by kernel_rfl)) (fun _ _ _ h => h) (Or.inl ⟨by rfl, ?_⟩) hHeld ?_ ?_; rotate_left; (focus rintro w' ⟨s0, s1, s2, s3, s4, s5, s6, s7, s8, s9, s10, s11, s12, s13, s14, s15, s16, s17, s18, s19, s20, s21, s22, s23, s24, s25, s26, s27⟩; go_simp; with_reducible rfl); rotate_left; (focus simp only [pt, i64_w, i32_w]; rfl)
            refine pure_ (i := 26) (N := some 67) (v := ?_) (a' := ?_) spec_l10Grows.m56 rfl rfl (any_of HT_.out (by kernel_rfl)) (fun _ _ _ h => h) (Or.inl ⟨by rfl, ?_⟩) ?_ ?_; rotate_left; (focus intro w'; go_simp; with_reducible rfl); rotate_left; (focus simp only [pt, i64_w, i32_w]; rfl)
            refine pure_ (i := 27) (N := some 68) (v := ?_) (a' := ?_) spec_l10Grows.m57 rfl rfl (any_of HT_.out (by kernel_rfl)) (fun _ _ _ h => h) (Or.inl ⟨by rfl, ?_⟩) ?_ ?_; rotate_left; (focus intro w'; go_simp; with_reducible rfl); rotate_left; (focus simp only [pt, i64_w, i32_w]; rfl)
            refine pure_ (i := 28) (N := some 69) (v := ?_) (a' := ?_) spec_l10Grows.m58 rfl rfl (any_of HT_.out (by kernel_rfl)) (fun _ _ _ h => h) (Or.inl ⟨by rfl, ?_⟩) ?_ ?_; rotate_left; (focus intro w'; go_simp; with_reducible rfl); rotate_left; (focus simp only [pt, i64_w, i32_w]; rfl)
            refine pure_ (i := 29) (N := some 70) (v := ?_) (a' := ?_) spec_l10Grows.m59 rfl rfl (any_of HT_.out (by kernel_rfl)) (fun _ _ _ h => h) (Or.inl ⟨by rfl, ?_⟩) ?_ ?_; rotate_left; (focus intro w'; go_simp; with_reducible rfl); rotate_left; (focus simp only [pt, i64_w, i32_w]; rfl)
            refine pure_ (i := 31) (N := some 72) (v := ?_) (a' := ?_) spec_l10Grows.m86 rfl rfl (any_of HT_.out (by kernel_rfl)) (fun _ _ _ h => h) (Or.inl ⟨by rfl, ?_⟩) ?_ ?_; rotate_left; (focus intro w'; go_simp; with_reducible rfl); rotate_left; (focus simp only [pt, i64_w, i32_w]; rfl)
            refine pure_ (i := 35) (N := some 76) (v := ?_) (a' := ?_) spec_l10Grows.m87 rfl rfl (any_of HT_.out (by kernel_rfl)) (fun _ _ _ h => h) (Or.inl ⟨by rfl, ?_⟩) ?_ ?_; rotate_left; (focus intro w'; go_simp; with_reducible rfl); rotate_left; (focus simp only [pt, i64_w, i32_w]; rfl)
            refine pure_ (i := 37) (N := some 78) (v := ?_) (a' := ?_) spec_l10Grows.m88 rfl rfl (any_of HT_.out (by kernel_rfl)) (fun _ _ _ h => h) (Or.inl ⟨by rfl, ?_⟩) ?_ ?_; rotate_left; (focus intro w'; go_simp; with_reducible rfl); rotate_left; (focus simp only [pt, i64_w, i32_w]; rfl)
            refine take_ (i := 30) (N := some 71) (v := ?_) (a' := ?_) spec_l10Grows.m89 rfl rfl (take_ofW HT_.out HW_.out (by kernel_rfl)) (fun _ _ _ h => h) (Or.inl ⟨by rfl, ?_⟩) hHeld ?_ ?_; rotate_left; (focus rintro w' ⟨s0, s1, s2, s3, s4, s5, s6, s7, s8, s9, s10, s11, s12, s13, s14, s15, s16, s17, s18, s19, s20, s21, s22, s23, s24, s25, s26, s27⟩; go_simp; with_reducible rfl); rotate_left; (focus simp only [pt, i64_w, i32_w]; rfl)
            refine pure_ (i := 32) (N := some 73) (v := ?_) (a' := ?_) spec_l10Grows.m90 rfl rfl (any_of HT_.out (by kernel_rfl)) (fun _ _ _ h => h) (Or.inl ⟨by rfl, ?_⟩) ?_ ?_; rotate_left; (focus intro w'; go_simp; with_reducible rfl); rotate_left; (focus simp only [pt, i64_w, i32_w]; rfl)
            refine pure_ (i := 33) (N := some 74) (v := ?_) (a' := ?_) spec_l10Grows.m91 rfl rfl (any_of HT_.out (by kernel_rfl)) (fun _ _ _ h => h) (Or.inl ⟨by rfl, ?_⟩) ?_ ?_; rotate_left; (focus intro w'; go_simp; with_reducible rfl); rotate_left; (focus simp only [pt, i64_w, i32_w]; rfl)
            refine take_ (i := 34) (N := some 75) (v := ?_) (a' := ?_) spec_l10Grows.m92 rfl rfl (take_ofW HT_.out HW_.out (by kernel_rfl)) (fun _ _ _ h => h) (Or.inl ⟨by rfl, ?_⟩) hHeld ?_ ?_; rotate_left; (focus rintro w' ⟨s0, s1, s2, s3, s4, s5, s6, s7, s8, s9, s10, s11, s12, s13, s14, s15, s16, s17, s18, s19, s20, s21, s22, s23, s24, s25, s26, s27⟩; go_simp; with_reducible rfl); rotate_left; (focus simp only [pt, i64_w, i32_w]; rfl)
            refine take_ (i := 36) (N := some 77) (v := ?_) (a' := ?_) spec_l10Grows.m67 rfl rfl (take_ofW HT_.out HW_.out (by kernel_rfl)) (fun _ _ _ h => h) (Or.inl ⟨by rfl, ?_⟩) hHeld ?_ ?_; rotate_left; (focus rintro w' ⟨s0, s1, s2, s3, s4, s5, s6, s7, s8, s9, s10, s11, s12, s13, s14, s15, s16, s17, s18, s19, s20, s21, s22, s23, s24, s25, s26, s27⟩; go_simp; with_reducible rfl); rotate_left; (focus simp only [pt, i64_w, i32_w]; rfl)
            refine pure_ (i := 38) (N := some 79) (v := ?_) (a' := ?_) spec_l10Grows.m68 rfl rfl (any_of HT_.out (by kernel_rfl)) (fun _ _ _ h => h) (Or.inl ⟨by rfl, ?_⟩) ?_ ?_; rotate_left; (focus intro w'; go_simp; with_reducible rfl); rotate_left; (focus simp only [pt, i64_w, i32_w]; rfl)
            refine pure_ (i := 39) (N := some 80) (v := ?_) (a' := ?_) spec_l10Grows.m69 rfl rfl (any_of HT_.out (by kernel_rfl)) (fun _ _ _ h => h) (Or.inl ⟨by rfl, ?_⟩) ?_ ?_; rotate_left; (focus intro w'; go_simp; with_reducible rfl); rotate_left; (focus simp only [pt, i64_w, i32_w]; rfl)
            refine take_ (i := 40) (N := some 81) (v := ?_) (a' := ?_) spec_l10Grows.m70 rfl rfl (take_ofW HT_.out HW_.out (by kernel_rfl)) (fun _ _ _ h => h) (Or.inl ⟨by rfl, ?_⟩) hHeld ?_ ?_; rotate_left; (focus rintro w' ⟨s0, s1, s2, s3, s4, s5, s6, s7, s8, s9, s10, s11, s12, s13, s14, s15, s16, s17, s18, s19, s20, s21, s22, s23, s24, s25, s26, s27⟩; go_simp; with_reducible rfl); rotate_left; (focus simp only [pt, i64_w, i32_w]; rfl)
            refine pure_ (i := 41) (N := some 82) (v := ?_) (a' := ?_) spec_l10Grows.m71 rfl rfl (any_of HT_.out (by kernel_rfl)) (fun _ _ _ h => h) (Or.inl ⟨by rfl, ?_⟩) ?_ ?_; rotate_left; (focus intro w'; go_simp; with_reducible rfl); rotate_left; (focus simp only [pt, i64_w, i32_w]; rfl)
            refine pure_ (i := 42) (N := some 83) (v := ?_) (a' := ?_) spec_l10Grows.m72 rfl rfl (any_of HT_.out (by kernel_rfl)) (fun _ _ _ h => h) (Or.inl ⟨by rfl, ?_⟩) ?_ ?_; rotate_left; (focus intro w'; go_simp; with_reducible rfl); rotate_left; (focus simp only [pt, i64_w, i32_w]; rfl)
            refine pure_ (i := 43) (N := some 84) (v := undef) (a' := ?_) spec_l10Grows.m73 rfl rfl (any_of HT_.out (by kernel_rfl)) (fun _ _ _ h => h) (Or.inr ⟨by rfl, rfl⟩) ?_ ?_; rotate_left; (focus simp only [pt, i64_w, i32_w]; rfl)
            refine pure_ (i := 44) (N := some 85) (v := undef) (a' := ?_) spec_l10Grows.m74 rfl rfl (any_of HT_.out (by kernel_rfl)) (fun _ _ _ h => h) (Or.inr ⟨by rfl, rfl⟩) ?_ ?_; rotate_left; (focus simp only [pt, i64_w, i32_w]; rfl)
            refine pure_ (i := 45) (N := some 86) (v := undef) (a' := ?_) spec_l10Grows.m75 rfl rfl (any_of HT_.out (by kernel_rfl)) (fun _ _ _ h => h) (Or.inr ⟨by rfl, rfl⟩) ?_ ?_; rotate_left; (focus simp only [pt, i64_w, i32_w]; rfl)
            refine pure_ (i := 46) (N := some 87) (v := undef) (a' := ?_) spec_l10Grows.m76 rfl rfl (any_of HT_.out (by kernel_rfl)) (fun _ _ _ h => h) (Or.inr ⟨by rfl, rfl⟩) ?_ ?_; rotate_left; (focus simp only [pt, i64_w, i32_w]; rfl)
            refine pure_ (i := 47) (N := some 88) (v := undef) (a' := ?_) spec_l10Grows.m77 rfl rfl (any_of HT_.out (by kernel_rfl)) (fun _ _ _ h => h) (Or.inr ⟨by rfl, rfl⟩) ?_ ?_; rotate_left; (focus simp only [pt, i64_w, i32_w]; rfl)
            refine pure_ (i := 48) (N := some 89) (v := undef) (a' := ?_) spec_l10Grows.m78 rfl rfl (any_of HT_.out (by kernel_rfl)) (fun _ _ _ h => h) (Or.inr ⟨by rfl, rfl⟩) ?_ ?_; rotate_left; (focus simp only [pt, i64_w, i32_w]; rfl)
            refine pure_ (i := 49) (N := some 90) (v := undef) (a' := ?_) spec_l10Grows.m79 rfl rfl (any_of HT_.out (by kernel_rfl)) (fun _ _ _ h => h) (Or.inr ⟨by rfl, rfl⟩) ?_ ?_; rotate_left; (focus simp only [pt, i64_w, i32_w]; rfl)
            refine pure_ (i := 50) (N := some 91) (v := undef) (a' := ?_) spec_l10Grows.m80 rfl rfl (any_of HT_.out (by kernel_rfl)) (fun _ _ _ h => h) (Or.inr ⟨by rfl, rfl⟩) ?_ ?_; rotate_left; (focus simp only [pt, i64_w, i32_w]; rfl)
            refine pure_ (i := 51) (N := some 92) (v := undef) (a' := ?_) spec_l10Grows.m81 rfl rfl (any_of HT_.out (by kernel_rfl)) (fun _ _ _ h => h) (Or.inr ⟨by rfl, rfl⟩) ?_ ?_; rotate_left; (focus simp only [pt, i64_w, i32_w]; rfl)
            refine pure_ (i := 52) (N := some 93) (v := undef) (a' := ?_) spec_l10Grows.m82 rfl rfl (any_of HT_.out (by kernel_rfl)) (fun _ _ _ h => h) (Or.inr ⟨by rfl, rfl⟩) ?_ ?_; rotate_left; (focus simp only [pt, i64_w, i32_w]; rfl)
            refine pure_ (i := 53) (N := some 94) (v := undef) (a' := ?_) spec_l10Grows.m83 rfl rfl (any_of HT_.out (by kernel_rfl)) (fun _ _ _ h => h) (Or.inr ⟨by rfl, rfl⟩) ?_ ?_; rotate_left; (focus simp only [pt, i64_w, i32_w]; rfl)
            refine pure_ (i := 54) (N := some 95) (v := ?_) (a' := ?_) spec_l10Grows.m84 rfl rfl (any_of HT_.out (by kernel_rfl)) (fun _ _ _ h => h) (Or.inl ⟨by rfl, ?_⟩) ?_ ?_; rotate_left; (focus intro w'; go_simp; with_reducible rfl); rotate_left; (focus simp only [pt, i64_w, i32_w]; rfl)
            refine pure_ (i := 55) (N := some 96) (v := ?_) (a' := ?_) spec_l10Grows.m85 rfl rfl (any_of HT_.out (by kernel_rfl)) (fun _ _ _ h => h) (Or.inl ⟨by rfl, ?_⟩) ?_ ?_; rotate_left; (focus intro w'; go_simp; with_reducible rfl); rotate_left; (focus simp only [pt, i64_w, i32_w]; rfl)
            refine done_ (done_of HT_.out (by kernel_rfl)) ?_
            try go_wp2
            go_roundg k2
            case measure => have := HJ2.out; have := HK2.out; omega
            case rel => exact ⟨(wrap64 (x5_2 + 1)), vE, H', ⟨by have := HJ2.out; have := HK2.out; omega⟩, ⟨by (with_reducible repeat (first | refine blk_drewN ?_ _ | refine blk_drew ?_ | refine blk_alloc ?_ _)); exact BK779.out⟩, ⟨by (with_reducible repeat (first | refine blk_drewN ?_ _ | refine blk_drew ?_ | refine blk_alloc ?_ _)); exact BK780.out⟩, ⟨bW⟩⟩
         ·rw [if_neg c20] at H
          have c20b0 : (((rd_T178 l1_1 x5_2).f0).toList == ((rd_T178 l0_1 x5_2).f0).toList) = false := beq_eq_false_iff_ne.mpr c20
          have c20b1 : (((rd_T178 l1_1 x5_2).f0).toList != ((rd_T178 l0_1 x5_2).f0).toList) = true := bne_iff_ne.mpr c20
          obtain rfl := Option.some.inj H
          have hnb36 := NB779_780.out
          have hnc36 := NB780_779.out
          have hcz37_0 : wr.cell? ⟨gb779, 0, none⟩ = some (.slice A0_0 l0_0.length c0_0) := (blk_cell BK779.out 0).trans rfl
          have hcz37_1 : wr.cell? ⟨gb779, 1, none⟩ = some (.slice A0_1 l0_1.length c0_1) := (blk_cell BK779.out 1).trans rfl
          have hfz37_0 := blk_frozen BK779.out 0
          have hfz37_1 := blk_frozen BK779.out 1
          try go_wp2
          have n0_ := Aside0.mk (blk_drew BK779.out)
          have n1_ := Aside0.mk (blk_drew BK780.out)
          have n2_ := Aside0.mk (below_drew1 HB.out)
          clear BK779
          clear BK780
          clear HB
          have BK779 := n0_
          have BK780 := n1_
          have HB := n2_
          clear n0_ n1_ n2_
          have p786 : 0 ≤ (x5_2 : Int) := odt
          have q786 : x5_2 < (l1_1.length : Int) := odt
          obtain ⟨ad786, e786, hx786_0, hx786_1, hx786_2, hx786_3⟩ := at_T178 HR1_1.out x5_2 p786 q786
          have hw786_3 := hx786_3
          have hw786_2 := hx786_2
          have hw786_1 := hx786_1
          have hw786_0 := hx786_0
          cases e786
          replace hx786_0 := (HB.out.cell (World.block_lt_of_cell? w _ hx786_0)).trans hx786_0
          replace hx786_1 := (HB.out.cell (World.block_lt_of_cell? w _ hx786_1)).trans hx786_1
          replace hx786_2 := (HB.out.cell (World.block_lt_of_cell? w _ hx786_2)).trans hx786_2
          replace hx786_3 := (HB.out.cell (World.block_lt_of_cell? w _ hx786_3)).trans hx786_3
          replace p786 := eq_true p786
          replace q786 := eq_true q786
          have p787 : 0 ≤ (x5_2 : Int) := odt
          have q787 : x5_2 < (l0_1.length : Int) := odt
          obtain ⟨ad787, e787, hx787_0, hx787_1, hx787_2, hx787_3⟩ := at_T178 HR0_1.out x5_2 p787 q787
          have hw787_3 := hx787_3
          have hw787_2 := hx787_2
          have hw787_1 := hx787_1
          have hw787_0 := hx787_0
          cases e787
          replace hx787_0 := (HB.out.cell (World.block_lt_of_cell? w _ hx787_0)).trans hx787_0
          replace hx787_1 := (HB.out.cell (World.block_lt_of_cell? w _ hx787_1)).trans hx787_1
          replace hx787_2 := (HB.out.cell (World.block_lt_of_cell? w _ hx787_2)).trans hx787_2
          replace hx787_3 := (HB.out.cell (World.block_lt_of_cell? w _ hx787_3)).trans hx787_3
          replace p787 := eq_true p787
          replace q787 := eq_true q787
          refine start_ (n := 56) (S := fun w' => w'.cell? ⟨gb780, 0, none⟩ = some (.slice A1_0 l1_0.length c1_0) ∧ w'.cell? ⟨gb780, 1, none⟩ = some (.slice (some ad786) l1_1.length c1_1) ∧ w'.cell? ⟨gb779, 0, none⟩ = some (.slice A0_0 l0_0.length c0_0) ∧ w'.cell? ⟨gb779, 1, none⟩ = some (.slice (some ad787) l0_1.length c0_1) ∧ w'.cell? (ad786.add ((x5_2).toNat * 4)) = some (.string ((rd_T178 l1_1 x5_2).f0)) ∧ w'.cell? ⟨(ad786.add ((x5_2).toNat * 4)).block, (ad786.add ((x5_2).toNat * 4)).off + 1, none⟩ = some (.int .i64 ((rd_T178 l1_1 x5_2).f1)) ∧ w'.cell? ⟨(ad786.add ((x5_2).toNat * 4)).block, (ad786.add ((x5_2).toNat * 4)).off + 2, none⟩ = some (.int .i64 ((rd_T178 l1_1 x5_2).f2)) ∧ w'.cell? ⟨(ad786.add ((x5_2).toNat * 4)).block, (ad786.add ((x5_2).toNat * 4)).off + 3, none⟩ = some (.bool ((rd_T178 l1_1 x5_2).f3)) ∧ w'.cell? (ad787.add ((x5_2).toNat * 4)) = some (.string ((rd_T178 l0_1 x5_2).f0)) ∧ w'.cell? ⟨(ad787.add ((x5_2).toNat * 4)).block, (ad787.add ((x5_2).toNat * 4)).off + 1, none⟩ = some (.int .i64 ((rd_T178 l0_1 x5_2).f1)) ∧ w'.cell? ⟨(ad787.add ((x5_2).toNat * 4)).block, (ad787.add ((x5_2).toNat * 4)).off + 2, none⟩ = some (.int .i64 ((rd_T178 l0_1 x5_2).f2)) ∧ w'.cell? ⟨(ad787.add ((x5_2).toNat * 4)).block, (ad787.add ((x5_2).toNat * 4)).off + 3, none⟩ = some (.bool ((rd_T178 l0_1 x5_2).f3))) (ds := []) spec_l10Grows.m29 (by kernel_rfl) rfl rfl ⟨(blk_cell BK780.out 0).trans rfl, (blk_cell BK780.out 1).trans rfl, (blk_cell BK779.out 0).trans rfl, (blk_cell BK779.out 1).trans rfl, ((HB.out.cell (World.block_lt_of_cell? w _ hw786_0)).trans hw786_0), ((HB.out.cell (World.block_lt_of_cell? w _ hw786_1)).trans hw786_1), ((HB.out.cell (World.block_lt_of_cell? w _ hw786_2)).trans hw786_2), ((HB.out.cell (World.block_lt_of_cell? w _ hw786_3)).trans hw786_3), ((HB.out.cell (World.block_lt_of_cell? w _ hw787_0)).trans hw787_0), ((HB.out.cell (World.block_lt_of_cell? w _ hw787_1)).trans hw787_1), ((HB.out.cell (World.block_lt_of_cell? w _ hw787_2)).trans hw787_2), ((HB.out.cell (World.block_lt_of_cell? w _ hw787_3)).trans hw787_3)⟩ (fun hHeld => ?_); refine with_tabW spec_l10Grows.tab6 spec_l10Grows.bits6 (fun HT_ HW_ => ?_)
          generalize wr.drew = w38 at BK779 BK780 HB hx786_0 hx786_1 hx786_2 hx786_3 hx787_0 hx787_1 hx787_2 hx787_3 hHeld ⊢
          refine pure_ (i := 0) (N := some 41) (v := ?_) (a' := ?_) spec_l10Grows.m30 rfl rfl (any_of HT_.out (by kernel_rfl)) (fun _ _ _ h => h) (Or.inl ⟨by rfl, ?_⟩) ?_ ?_; rotate_left; (focus intro w'; go_simp; with_reducible rfl); rotate_left; (focus simp only [pt, i64_w, i32_w]; rfl)
          refine pure_ (i := 2) (N := some 43) (v := ?_) (a' := ?_) spec_l10Grows.m31 rfl rfl (any_of HT_.out (by kernel_rfl)) (fun _ _ _ h => h) (Or.inl ⟨by rfl, ?_⟩) ?_ ?_; rotate_left; (focus intro w'; go_simp; with_reducible rfl); rotate_left; (focus simp only [pt, i64_w, i32_w]; rfl)
          refine pure_ (i := 6) (N := some 47) (v := ?_) (a' := ?_) spec_l10Grows.m32 rfl rfl (any_of HT_.out (by kernel_rfl)) (fun _ _ _ h => h) (Or.inl ⟨by rfl, ?_⟩) ?_ ?_; rotate_left; (focus intro w'; go_simp; with_reducible rfl); rotate_left; (focus simp only [pt, i64_w, i32_w]; rfl)
          refine pure_ (i := 8) (N := some 49) (v := ?_) (a' := ?_) spec_l10Grows.m33 rfl rfl (any_of HT_.out (by kernel_rfl)) (fun _ _ _ h => h) (Or.inl ⟨by rfl, ?_⟩) ?_ ?_; rotate_left; (focus intro w'; go_simp; with_reducible rfl); rotate_left; (focus simp only [pt, i64_w, i32_w]; rfl)
          refine take_ (i := 1) (N := some 42) (v := ?_) (a' := ?_) spec_l10Grows.m34 rfl rfl (take_ofW HT_.out HW_.out (by kernel_rfl)) (fun _ _ _ h => h) (Or.inl ⟨by rfl, ?_⟩) hHeld ?_ ?_; rotate_left; (focus rintro w' ⟨s0, s1, s2, s3, s4, s5, s6, s7, s8, s9, s10, s11⟩; go_simp; with_reducible rfl); rotate_left; (focus simp only [pt, i64_w, i32_w]; rfl)
          refine pure_ (i := 3) (N := some 44) (v := ?_) (a' := ?_) spec_l10Grows.m35 rfl rfl (any_of HT_.out (by kernel_rfl)) (fun _ _ _ h => h) (Or.inl ⟨by rfl, ?_⟩) ?_ ?_; rotate_left; (focus intro w'; go_simp; with_reducible rfl); rotate_left; (focus simp only [pt, i64_w, i32_w]; rfl)
          refine pure_ (i := 4) (N := some 45) (v := ?_) (a' := ?_) spec_l10Grows.m36 rfl rfl (any_of HT_.out (by kernel_rfl)) (fun _ _ _ h => h) (Or.inl ⟨by rfl, ?_⟩) ?_ ?_; rotate_left; (focus intro w'; go_simp; with_reducible rfl); rotate_left; (focus simp only [pt, i64_w, i32_w]; rfl)
          refine take_ (i := 5) (N := some 46) (v := ?_) (a' := ?_) spec_l10Grows.m37 rfl rfl (take_ofW HT_.out HW_.out (by kernel_rfl)) (fun _ _ _ h => h) (Or.inl ⟨by rfl, ?_⟩) hHeld ?_ ?_; rotate_left; (focus rintro w' ⟨s0, s1, s2, s3, s4, s5, s6, s7, s8, s9, s10, s11⟩; go_simp; with_reducible rfl); rotate_left; (focus simp only [pt, i64_w, i32_w]; rfl)
          refine take_ (i := 7) (N := some 48) (v := ?_) (a' := ?_) spec_l10Grows.m38 rfl rfl (take_ofW HT_.out HW_.out (by kernel_rfl)) (fun _ _ _ h => h) (Or.inl ⟨by rfl, ?_⟩) hHeld ?_ ?_; rotate_left; (focus rintro w' ⟨s0, s1, s2, s3, s4, s5, s6, s7, s8, s9, s10, s11⟩; go_simp; with_reducible rfl); rotate_left; (focus simp only [pt, i64_w, i32_w]; rfl)
          refine pure_ (i := 9) (N := some 50) (v := ?_) (a' := ?_) spec_l10Grows.m39 rfl rfl (any_of HT_.out (by kernel_rfl)) (fun _ _ _ h => h) (Or.inl ⟨by rfl, ?_⟩) ?_ ?_; rotate_left; (focus intro w'; go_simp; with_reducible rfl); rotate_left; (focus simp only [pt, i64_w, i32_w]; rfl)
          refine pure_ (i := 10) (N := some 51) (v := ?_) (a' := ?_) spec_l10Grows.m40 rfl rfl (any_of HT_.out (by kernel_rfl)) (fun _ _ _ h => h) (Or.inl ⟨by rfl, ?_⟩) ?_ ?_; rotate_left; (focus intro w'; go_simp; with_reducible rfl); rotate_left; (focus simp only [pt, i64_w, i32_w]; rfl)
          refine take_ (i := 11) (N := some 52) (v := ?_) (a' := ?_) spec_l10Grows.m41 rfl rfl (take_ofW HT_.out HW_.out (by kernel_rfl)) (fun _ _ _ h => h) (Or.inl ⟨by rfl, ?_⟩) hHeld ?_ ?_; rotate_left; (focus rintro w' ⟨s0, s1, s2, s3, s4, s5, s6, s7, s8, s9, s10, s11⟩; go_simp; with_reducible rfl); rotate_left; (focus simp only [pt, i64_w, i32_w]; rfl)
          refine pure_ (i := 12) (N := some 53) (v := ?_) (a' := ?_) spec_l10Grows.m42 rfl rfl (any_of HT_.out (by kernel_rfl)) (fun _ _ _ h => h) (Or.inl ⟨by rfl, ?_⟩) ?_ ?_; rotate_left; (focus intro w'; go_simp; with_reducible rfl); rotate_left; (focus simp only [pt, i64_w, i32_w]; rfl)
          refine pure_ (i := 13) (N := some 54) (v := ?_) (a' := ?_) spec_l10Grows.m43 rfl rfl (any_of HT_.out (by kernel_rfl)) (fun _ _ _ h => h) (Or.inl ⟨by rfl, ?_⟩) ?_ ?_; rotate_left; (focus intro w'; go_simp; with_reducible rfl); rotate_left; (focus simp only [pt, i64_w, i32_w]; rfl)
          refine pure_ (i := 14) (N := some 55) (v := undef) (a' := ?_) spec_l10Grows.m44 rfl rfl (any_of HT_.out (by kernel_rfl)) (fun _ _ _ h => h) (Or.inr ⟨by rfl, rfl⟩) ?_ ?_; rotate_left; (focus simp only [pt, i64_w, i32_w]; rfl)
          refine pure_ (i := 15) (N := some 56) (v := undef) (a' := ?_) #[true, true, true, true, true, true, true, true, true, true, true, true, true, true, true, true, false, false, false, false, false, false, false, false, false, false, false, false, false, false, false, false, false, false, false, false, false, false, false, false, false, false, false, false, false, false, false, false, false, false, false, false, false, false, false, false] rfl rfl (any_of HT_.out (by kernel_rfl)) (fun _ _ _ h => h) (Or.inr ⟨by rfl, rfl⟩) ?_ ?_; rotate_left; (focus simp only [pt, i64_w, i32_w]; rfl)
          refine pure_ (i := 16) (N := some 57) (v := undef) (a' := ?_) #[true, true, true, true, true, true, true, true, true, true, true, true, true, true, true, true, true, false, false, false, false, false, false, false, false, false, false, false, false, false, false, false, false, false, false, false, false, false, false, false, false, false, false, false, false, false, false, false, false, false, false, false, false, false, false, false] rfl rfl (any_of HT_.out (by kernel_rfl)) (fun _ _ _ h => h) (Or.inr ⟨by rfl, rfl⟩) ?_ ?_; rotate_left; (focus simp only [pt, i64_w, i32_w]; rfl)
          refine pure_ (i := 17) (N := some 58) (v := undef) (a' := ?_) #[true, true, true, true, true, true, true, true, true, true, true, true, true, true, true, true, true, true, false, false, false, false, false, false, false, false, false, false, false, false, false, false, false, false, false, false, false, false, false, false, false, false, false, false, false, false, false, false, false, false, false, false, false, false, false, false] rfl rfl (any_of HT_.out (by kernel_rfl)) (fun _ _ _ h => h) (Or.inr ⟨by rfl, rfl⟩) ?_ ?_; rotate_left; (focus simp only [pt, i64_w, i32_w]; rfl)
          refine pure_ (i := 18) (N := some 59) (v := undef) (a' := ?_) #[true, true, true, true, true, true, true, true, true, true, true, true, true, true, true, true, true, true, true, false, false, false, false, false, false, false, false, false, false, false, false, false, false, false, false, false, false, false, false, false, false, false, false, false, false, false, false, false, false, false, false, false, false, false, false, false] rfl rfl (any_of HT_.out (by kernel_rfl)) (fun _ _ _ h => h) (Or.inr ⟨by rfl, rfl⟩) ?_ ?_; rotate_left; (focus simp only [pt, i64_w, i32_w]; rfl)
          refine pure_ (i := 19) (N := some 60) (v := undef) (a' := ?_) #[true, true, true, true, true, true, true, true, true, true, true, true, true, true, true, true, true, true, true, true, false, false, false, false, false, false, false, false, false, false, false, false, false, false, false, false, false, false, false, false, false, false, false, false, false, false, false, false, false, false, false, false, false, false, false, false] rfl rfl (any_of HT_.out (by kernel_rfl)) (fun _ _ _ h => h) (Or.inr ⟨by rfl, rfl⟩) ?_ ?_; rotate_left; (focus simp only [pt, i64_w, i32_w]; rfl)
          refine pure_ (i := 20) (N := some 61) (v := undef) (a' := ?_) #[true, true, true, true, true, true, true, true, true, true, true, true, true, true, true, true, true, true, true, true, true, false, false, false, false, false, false, false, false, false, false, false, false, false, false, false, false, false, false, false, false, false, false, false, false, false, false, false, false, false, false, false, false, false, false, false] rfl rfl (any_of HT_.out (by kernel_rfl)) (fun _ _ _ h => h) (Or.inr ⟨by rfl, rfl⟩) ?_ ?_; rotate_left; (focus simp only [pt, i64_w, i32_w]; rfl)
          refine pure_ (i := 21) (N := some 62) (v := undef) (a' := ?_) #[true, true, true, true, true, true, true, true, true, true, true, true, true, true, true, true, true, true, true, true, true, true, false, false, false, false, false, false, false, false, false, false, false, false, false, false, false, false, false, false, false, false, false, false, false, false, false, false, false, false, false, false, false, false, false, false] rfl rfl (any_of HT_.out (by kernel_rfl)) (fun _ _ _ h => h) (Or.inr ⟨by rfl, rfl⟩) ?_ ?_; rotate_left; (focus simp only [pt, i64_w, i32_w]; rfl)
          refine pure_ (i := 22) (N := some 63) (v := undef) (a' := ?_) spec_l10Grows.m52 rfl rfl (any_of HT_.out (by kernel_rfl)) (fun _ _ _ h => h) (Or.inr ⟨by rfl, rfl⟩) ?_ ?_; rotate_left; (focus simp only [pt, i64_w, i32_w]; rfl)
          refine pure_ (i := 23) (N := some 64) (v := undef) (a' := ?_) spec_l10Grows.m53 rfl rfl (any_of HT_.out (by kernel_rfl)) (fun _ _ _ h => h) (Or.inr ⟨by rfl, rfl⟩) ?_ ?_; rotate_left; (focus simp only [pt, i64_w, i32_w]; rfl)
          refine pure_ (i := 24) (N := some 65) (v := undef) (a' := ?_) spec_l10Grows.m54 rfl rfl (any_of HT_.out (by kernel_rfl)) (fun _ _ _ h => h) (Or.inr ⟨by rfl, rfl⟩) ?_ ?_; rotate_left; (focus simp only [pt, i64_w, i32_w]; rfl)
          refine pure_ (i := 25) (N := some 66) (v := undef) (a' := ?_) spec_l10Grows.m55 rfl rfl (any_of HT_.out (by kernel_rfl)) (fun _ _ _ h => h) (Or.inr ⟨by rfl, rfl⟩) ?_ ?_; rotate_left; (focus simp only [pt, i64_w, i32_w]; rfl)
          refine pure_ (i := 26) (N := some 67) (v := undef) (a' := ?_) spec_l10Grows.m56 rfl rfl (any_of HT_.out (by kernel_rfl)) (fun _ _ _ h => h) (Or.inr ⟨by rfl, rfl⟩) ?_ ?_; rotate_left; (focus simp only [pt, i64_w, i32_w]; rfl)
          refine pure_ (i := 27) (N := some 68) (v := ?_) (a' := ?_) spec_l10Grows.m57 rfl rfl (any_of HT_.out (by kernel_rfl)) (fun _ _ _ h => h) (Or.inl ⟨by rfl, ?_⟩) ?_ ?_; rotate_left; (focus intro w'; go_simp; with_reducible rfl); rotate_left; (focus simp only [pt, i64_w, i32_w]; rfl)
          refine pure_ (i := 28) (N := some 69) (v := ?_) (a' := ?_) spec_l10Grows.m58 rfl rfl (any_of HT_.out (by kernel_rfl)) (fun _ _ _ h => h) (Or.inl ⟨by rfl, ?_⟩) ?_ ?_; rotate_left; (focus intro w'; go_simp; with_reducible rfl); rotate_left; (focus simp only [pt, i64_w, i32_w]; rfl)
          refine pure_ (i := 29) (N := some 70) (v := undef) (a' := ?_) spec_l10Grows.m59 rfl rfl (any_of HT_.out (by kernel_rfl)) (fun _ _ _ h => h) (Or.inr ⟨by rfl, rfl⟩) ?_ ?_; rotate_left; (focus simp only [pt, i64_w, i32_w]; rfl)
          refine pure_ (i := 30) (N := some 71) (v := undef) (a' := ?_) spec_l10Grows.m60 rfl rfl (any_of HT_.out (by kernel_rfl)) (fun _ _ _ h => h) (Or.inr ⟨by rfl, rfl⟩) ?_ ?_; rotate_left; (focus simp only [pt, i64_w, i32_w]; rfl)
          refine pure_ (i := 31) (N := some 72) (v := undef) (a' := ?_) spec_l10Grows.m61 rfl rfl (any_of HT_.out (by kernel_rfl)) (fun _ _ _ h => h) (Or.inr ⟨by rfl, rfl⟩) ?_ ?_; rotate_left; (focus simp only [pt, i64_w, i32_w]; rfl)
          refine pure_ (i := 32) (N := some 73) (v := undef) (a' := ?_) spec_l10Grows.m62 rfl rfl (any_of HT_.out (by kernel_rfl)) (fun _ _ _ h => h) (Or.inr ⟨by rfl, rfl⟩) ?_ ?_; rotate_left; (focus simp only [pt, i64_w, i32_w]; rfl)
          refine pure_ (i := 33) (N := some 74) (v := undef) (a' := ?_) spec_l10Grows.m63 rfl rfl (any_of HT_.out (by kernel_rfl)) (fun _ _ _ h => h) (Or.inr ⟨by rfl, rfl⟩) ?_ ?_; rotate_left; (focus simp only [pt, i64_w, i32_w]; rfl)
          refine pure_ (i := 34) (N := some 75) (v := undef) (a' := ?_) spec_l10Grows.m64 rfl rfl (any_of HT_.out (by kernel_rfl)) (fun _ _ _ h => h) (Or.inr ⟨by rfl, rfl⟩) ?_ ?_; rotate_left; (focus simp only [pt, i64_w, i32_w]; rfl)
          refine pure_ (i := 35) (N := some 76) (v := undef) (a' := ?_) spec_l10Grows.m65 rfl rfl (any_of HT_.out (by kernel_rfl)) (fun _ _ _ h => h) (Or.inr ⟨by rfl, rfl⟩) ?_ ?_; rotate_left; (focus simp only [pt, i64_w, i32_w]; rfl)
          refine pure_ (i := 36) (N := some 77) (v := undef) (a' := ?_) spec_l10Grows.m66 rfl rfl (any_of HT_.out (by kernel_rfl)) (fun _ _ _ h => h) (Or.inr ⟨by rfl, rfl⟩) ?_ ?_; rotate_left; (focus simp only [pt, i64_w, i32_w]; rfl)
          refine pure_ (i := 37) (N := some 78) (v := undef) (a' := ?_) spec_l10Grows.m67 rfl rfl (any_of HT_.out (by kernel_rfl)) (fun _ _ _ h => h) (Or.inr ⟨by rfl, rfl⟩) ?_ ?_; rotate_left; (focus simp only [pt, i64_w, i32_w]; rfl)
          refine pure_ (i := 38) (N := some 79) (v := undef) (a' := ?_) spec_l10Grows.m68 rfl rfl (any_of HT_.out (by kernel_rfl)) (fun _ _ _ h => h) (Or.inr ⟨by rfl, rfl⟩) ?_ ?_; rotate_left; (focus simp only [pt, i64_w, i32_w]; rfl)
          refine pure_ (i := 39) (N := some 80) (v := undef) (a' := ?_) spec_l10Grows.m69 rfl rfl (any_of HT_.out (by kernel_rfl)) (fun _ _ _ h => h) (Or.inr ⟨by rfl, rfl⟩) ?_ ?_; rotate_left; (focus simp only [pt, i64_w, i32_w]; rfl)
          refine pure_ (i := 40) (N := some 81) (v := undef) (a' := ?_) spec_l10Grows.m70 rfl rfl (any_of HT_.out (by kernel_rfl)) (fun _ _ _ h => h) (Or.inr ⟨by rfl, rfl⟩) ?_ ?_; rotate_left; (focus simp only [pt, i64_w, i32_w]; rfl)
          refine pure_ (i := 41) (N := some 82) (v := undef) (a' := ?_) spec_l10Grows.m71 rfl rfl (any_of HT_.out (by kernel_rfl)) (fun _ _ _ h => h) (Or.inr ⟨by rfl, rfl⟩) ?_ ?_; rotate_left; (focus simp only [pt, i64_w, i32_w]; rfl)
          refine pure_ (i := 42) (N := some 83) (v := undef) (a' := ?_) spec_l10Grows.m72 rfl rfl (any_of HT_.out (by kernel_rfl)) (fun _ _ _ h => h) (Or.inr ⟨by rfl, rfl⟩) ?_ ?_; rotate_left; (focus simp only [pt, i64_w, i32_w]; rfl)
          refine pure_ (i := 43) (N := some 84) (v := undef) (a' := ?_) spec_l10Grows.m73 rfl rfl (any_of HT_.out (by kernel_rfl)) (fun _ _ _ h => h) (Or.inr ⟨by rfl, rfl⟩) ?_ ?_; rotate_left; (focus simp only [pt, i64_w, i32_w]; rfl)
          refine pure_ (i := 44) (N := some 85) (v := undef) (a' := ?_) spec_l10Grows.m74 rfl rfl (any_of HT_.out (by kernel_rfl)) (fun _ _ _ h => h) (Or.inr ⟨by rfl, rfl⟩) ?_ ?_; rotate_left; (focus simp only [pt, i64_w, i32_w]; rfl)
          refine pure_ (i := 45) (N := some 86) (v := undef) (a' := ?_) spec_l10Grows.m75 rfl rfl (any_of HT_.out (by kernel_rfl)) (fun _ _ _ h => h) (Or.inr ⟨by rfl, rfl⟩) ?_ ?_; rotate_left; (focus simp only [pt, i64_w, i32_w]; rfl)
          refine pure_ (i := 46) (N := some 87) (v := undef) (a' := ?_) spec_l10Grows.m76 rfl rfl (any_of HT_.out (by kernel_rfl)) (fun _ _ _ h => h) (Or.inr ⟨by rfl, rfl⟩) ?_ ?_; rotate_left; (focus simp only [pt, i64_w, i32_w]; rfl)
          refine pure_ (i := 47) (N := some 88) (v := undef) (a' := ?_) spec_l10Grows.m77 rfl rfl (any_of HT_.out (by kernel_rfl)) (fun _ _ _ h => h) (Or.inr ⟨by rfl, rfl⟩) ?_ ?_; rotate_left; (focus simp only [pt, i64_w, i32_w]; rfl)
          refine pure_ (i := 48) (N := some 89) (v := undef) (a' := ?_) spec_l10Grows.m78 rfl rfl (any_of HT_.out (by kernel_rfl)) (fun _ _ _ h => h) (Or.inr ⟨by rfl, rfl⟩) ?_ ?_; rotate_left; (focus simp only [pt, i64_w, i32_w]; rfl)
          refine pure_ (i := 49) (N := some 90) (v := undef) (a' := ?_) spec_l10Grows.m79 rfl rfl (any_of HT_.out (by kernel_rfl)) (fun _ _ _ h => h) (Or.inr ⟨by rfl, rfl⟩) ?_ ?_; rotate_left; (focus simp only [pt, i64_w, i32_w]; rfl)
          refine pure_ (i := 50) (N := some 91) (v := undef) (a' := ?_) spec_l10Grows.m80 rfl rfl (any_of HT_.out (by kernel_rfl)) (fun _ _ _ h => h) (Or.inr ⟨by rfl, rfl⟩) ?_ ?_; rotate_left; (focus simp only [pt, i64_w, i32_w]; rfl)
          refine pure_ (i := 51) (N := some 92) (v := undef) (a' := ?_) spec_l10Grows.m81 rfl rfl (any_of HT_.out (by kernel_rfl)) (fun _ _ _ h => h) (Or.inr ⟨by rfl, rfl⟩) ?_ ?_; rotate_left; (focus simp only [pt, i64_w, i32_w]; rfl)
          refine pure_ (i := 52) (N := some 93) (v := undef) (a' := ?_) spec_l10Grows.m82 rfl rfl (any_of HT_.out (by kernel_rfl)) (fun _ _ _ h => h) (Or.inr ⟨by rfl, rfl⟩) ?_ ?_; rotate_left; (focus simp only [pt, i64_w, i32_w]; rfl)
          refine pure_ (i := 53) (N := some 94) (v := undef) (a' := ?_) spec_l10Grows.m83 rfl rfl (any_of HT_.out (by kernel_rfl)) (fun _ _ _ h => h) (Or.inr ⟨by rfl, rfl⟩) ?_ ?_; rotate_left; (focus simp only [pt, i64_w, i32_w]; rfl)
          refine pure_ (i := 54) (N := some 95) (v := undef) (a' := ?_) spec_l10Grows.m84 rfl rfl (any_of HT_.out (by kernel_rfl)) (fun _ _ _ h => h) (Or.inr ⟨by rfl, rfl⟩) ?_ ?_; rotate_left; (focus simp only [pt, i64_w, i32_w]; rfl)
          refine pure_ (i := 55) (N := some 96) (v := ?_) (a' := ?_) spec_l10Grows.m85 rfl rfl (any_of HT_.out (by kernel_rfl)) (fun _ _ _ h => h) (Or.inl ⟨by rfl, ?_⟩) ?_ ?_; rotate_left; (focus intro w'; go_simp; with_reducible rfl); rotate_left; (focus simp only [pt, i64_w, i32_w]; rfl)
          refine done_ (done_of HT_.out (by kernel_rfl)) ?_
          try go_wp2
          go_ret
          exact ⟨rE, bW⟩
        ·rw [if_neg c19] at H
         exact absurd H (by simp)
       ·rw [if_neg c18] at H
        exact absurd H (by simp)
      ·rw [if_neg c17] at H
       have c17b0 : decide (x5_2 < (l0_1.length : Int)) = false := decide_eq_false c17
       clear c17
       obtain rfl := Option.some.inj H
       have hnb39 := NB779_780.out
       have hnc39 := NB780_779.out
       have hcz40_0 : wr.cell? ⟨gb779, 0, none⟩ = some (.slice A0_0 l0_0.length c0_0) := (blk_cell BK779.out 0).trans rfl
       have hcz40_1 : wr.cell? ⟨gb779, 1, none⟩ = some (.slice A0_1 l0_1.length c0_1) := (blk_cell BK779.out 1).trans rfl
       have hfz40_0 := blk_frozen BK779.out 0
       have hfz40_1 := blk_frozen BK779.out 1
       go_wp2
       go_ret
       exact ⟨rE, bW⟩
end Go.Proofs.Ytcpljigliklgcaa.Q
end

section
namespace Go.Proofs.Ytcpljigliklgcaa.Q
open Go.RowKit Go.Proofs.YtcpljigliklgcaaW.PrintWords Go.Proofs.YtcpljigliklgcaaW.PrintLast Go.Proofs.YtcpljigliklgcaaW.PrintMore
attribute [local go_sem] max2_int min2_int max_two min_two max_three min_three max_four min_four   -- for this text's walks alone
set_option linter.unusedVariables false
set_option linter.unusedSimpArgs false
attribute [local go_sem] bin_leq bin_gtr bin_geq
def spec_GrowsFrom.f (k : Nat) (l0_0 : List (S118)) (l0_1 : List (S178)) (l1_0 : List (S118)) (l1_1 : List (S178)) : Option (Bool × Int) := (spec_l05OK.f k l0_0 l0_1).bind fun t796 => (if t796 = true then ((spec_l05OK.f k l1_0 l1_1).bind fun t797 => (if t797 = true then ((spec_l10Grows.f k l0_0 l0_1 l1_0 l1_1).bind fun t798 => (some (t798, 0))) else (some (false, 1)))) else (some (false, 1)))
set_option maxHeartbeats 8000000 in
set_option maxRecDepth 100000 in
theorem spec_GrowsFrom.calls (k : Nat) (A0_0 : Option Addr) (c0_0 : Nat) (l0_0 : List (S118)) (A0_1 : Option Addr) (c0_1 : Nat) (l0_1 : List (S178)) (A1_0 : Option Addr) (c1_0 : Nat) (l1_0 : List (S118)) (A1_1 : Option Addr) (c1_1 : Nat) (l1_1 : List (S178)) (r1 : Bool) (r2 : Int) (w : World) (hr0_0 : Kd.C k118 w A0_0 l0_0.length l0_0) (hc0_0 : l0_0.length ≤ c0_0) (hr0_1 : Kd.C k178 w A0_1 l0_1.length l0_1) (hc0_1 : l0_1.length ≤ c0_1) (hr1_0 : Kd.C k118 w A1_0 l1_0.length l1_0) (hc1_0 : l1_0.length ≤ c1_0) (hr1_1 : Kd.C k178 w A1_1 l1_1.length l1_1) (hc1_1 : l1_1.length ≤ c1_1) (h : spec_GrowsFrom.f k l0_0 l0_1 l1_0 l1_1 = some (r1, r2)) :
    Calls Try.prog 48 #[.agg #[.slice A0_0 l0_0.length c0_0, .slice A0_1 l0_1.length c0_1], .agg #[.slice A1_0 l1_0.length c1_0, .slice A1_1 l1_1.length c1_1]] w fun e w' => e = .returned (.tuple #[.bool r1, .int .i64 r2]) ∧ Below w.heap.size w w' := by
  have hu66 := Try.underlying66
  have HR0_0 := Aside0.mk hr0_0
  have HC0_0 := Aside0.mk hc0_0
  clear hr0_0 hc0_0
  have HR0_1 := Aside0.mk hr0_1
  have HC0_1 := Aside0.mk hc0_1
  clear hr0_1 hc0_1
  have HR1_0 := Aside0.mk hr1_0
  have HC1_0 := Aside0.mk hc1_0
  clear hr1_0 hc1_0
  have HR1_1 := Aside0.mk hr1_1
  have HC1_1 := Aside0.mk hc1_1
  clear hr1_1 hc1_1
  have HB := Aside0.mk (Below.refl w.heap.size w)
  have H : ((spec_l05OK.f k l0_0 l0_1).bind fun t796 => (if t796 = true then ((spec_l05OK.f k l1_0 l1_1).bind fun t797 => (if t797 = true then ((spec_l10Grows.f k l0_0 l0_1 l1_0 l1_1).bind fun t798 => (some (t798, 0))) else (some (false, 1)))) else (some (false, 1)))) = some (r1, r2) := h
  clear h
  replace H := Option.bind_eq_some_iff.mp H
  obtain ⟨t796, A30, H⟩ := H
  replace H : (if t796 = true then ((spec_l05OK.f k l1_0 l1_1).bind fun t797 => (if t797 = true then ((spec_l10Grows.f k l0_0 l0_1 l1_0 l1_1).bind fun t798 => (some (t798, 0))) else (some (false, 1)))) else (some (false, 1))) = some (r1, r2) := H
  have A3 := Aside0.mk A30
  clear A30
  by_cases c4 : t796 = true
  · subst c4
    have H1 : ((spec_l05OK.f k l1_0 l1_1).bind fun t797 => (if t797 = true then ((spec_l10Grows.f k l0_0 l0_1 l1_0 l1_1).bind fun t798 => (some (t798, 0))) else (some (false, 1)))) = some (r1, r2) := by rw [if_pos rfl] at H; exact H
    clear H
    have H := H1
    clear H1
    replace H := Option.bind_eq_some_iff.mp H
    obtain ⟨t797, A50, H⟩ := H
    replace H : (if t797 = true then ((spec_l10Grows.f k l0_0 l0_1 l1_0 l1_1).bind fun t798 => (some (t798, 0))) else (some (false, 1))) = some (r1, r2) := H
    have A5 := Aside0.mk A50
    clear A50
    by_cases c6 : t797 = true
    · subst c6
      have H1 : ((spec_l10Grows.f k l0_0 l0_1 l1_0 l1_1).bind fun t798 => (some (t798, 0))) = some (r1, r2) := by rw [if_pos rfl] at H; exact H
      clear H
      have H := H1
      clear H1
      replace H := Option.bind_eq_some_iff.mp H
      obtain ⟨t798, A70, H⟩ := H
      replace H : (some (t798, 0)) = some (r1, r2) := H
      have A7 := Aside0.mk A70
      clear A70
      simp only [Option.some.injEq, Prod.mk.injEq] at H
      obtain ⟨rfl, rfl⟩ := H
      go_enter Try.func48, Try.ntmps48
      go_wp2_with (first | ((with_reducible refine gate_dst (N := 2) rfl ?_); refine bE (N := 2) (cs := #[.slice A0_0 l0_0.length c0_0, .slice A0_1 l0_1.length c0_1]) (t := 66) ?_; intro gb794 hg w8 hbox hb; have n0_ := Aside0.mk (below_step (w := w) bW hb); have n1_ := Aside0.mk (hbox); have n2_ := Aside0.mk (gS (w := w) hg); have n3_ := n2_; clear HB; have HB := n0_; have BK794 := n1_; have GW794 := n2_; have GE794 := n3_; clear n0_ n1_ n2_ n3_; clear hb hbox hg) | ((with_reducible refine gate_dst (N := 3) rfl ?_); refine bE (N := 3) (cs := #[.slice A1_0 l1_0.length c1_0, .slice A1_1 l1_1.length c1_1]) (t := 66) ?_; intro gb795 hg w9 hbox hb; have n0_ := Aside0.mk (kb BK794 hb); have n1_ := Aside0.mk (below_step (w := w) bW hb); have n2_ := Aside0.mk (hbox); have n3_ := Aside0.mk (gS (w := w) hg); have n4_ := n3_; have n5_ := Aside0.mk (nL BK794 hg); have n6_ := Aside0.mk (nG BK794 hg); clear BK794; clear HB; have BK794 := n0_; have HB := n1_; have BK795 := n2_; have GW795 := n3_; have GE795 := n4_; have NB794_795 := n5_; have NB795_794 := n6_; clear n0_ n1_ n2_ n3_ n4_ n5_ n6_; clear hb hbox hg; have hnb10 := NB794_795.out; have hnc10 := NB795_794.out; obtain ⟨hcz11_0, hcz11_1⟩ := cz2 BK794; obtain ⟨hfz11_0, hfz11_1⟩ := fz2 BK794) | ((with_reducible refine gate_callee (f := 113) rfl ?_); refine goesL_ (some 7) rfl rfl Try.func113 (by kernel_rfl) rfl #[.agg #[.slice A0_0 l0_0.length c0_0, .slice A0_1 l0_1.length c0_1]] rfl gA ?_; (with_reducible refine (spec_l05OK.calls k _ _ l0_0 _ _ l0_1 true _ ?side1 ?side2 ?side3 ?side4 A3.out).mono ?_); (case side1 => exact cB HR0_0); (case side2 => exact HC0_0.out); (case side3 => exact cB HR0_1); (case side4 => exact HC0_1.out); rintro e w12 ⟨rfl, hb⟩; refine ⟨_, rfl, ?_⟩; have n0_ := Aside0.mk (kb BK794 hb); have n1_ := Aside0.mk (kb BK795 hb); have n2_ := Aside0.mk (below_step (w := w) bW hb); clear BK794; clear BK795; clear HB; have BK794 := n0_; have BK795 := n1_; have HB := n2_; clear n0_ n1_ n2_; (try clear hb); (try clear hb2); (try clear hk); (try clear hi); obtain ⟨hcz13_0, hcz13_1⟩ := cz2 BK795; obtain ⟨hfz13_0, hfz13_1⟩ := fz2 BK795) | (go_at_call 113; (with_reducible refine (spec_l05OK.calls k _ _ l1_0 _ _ l1_1 true _ ?side1 ?side2 ?side3 ?side4 A5.out).mono ?_); (case side1 => exact cB HR1_0); (case side2 => exact HC1_0.out); (case side3 => exact cB HR1_1); (case side4 => exact HC1_1.out); rintro e w14 ⟨rfl, hb⟩; have n0_ := Aside0.mk (kb BK794 hb); have n1_ := Aside0.mk (kb BK795 hb); have n2_ := Aside0.mk (below_step (w := w) bW hb); clear BK794; clear BK795; clear HB; have BK794 := n0_; have BK795 := n1_; have HB := n2_; clear n0_ n1_ n2_; (try clear hb); (try clear hb2); (try clear hk); (try clear hi); obtain ⟨hcz15_0, hcz15_1⟩ := cz2 BK794; obtain ⟨hfz15_0, hfz15_1⟩ := fz2 BK794; obtain ⟨hcz16_0, hcz16_1⟩ := cz2 BK795; obtain ⟨hfz16_0, hfz16_1⟩ := fz2 BK795) | ((with_reducible refine gate_callee (f := 123) rfl ?_); refine goesL_ (some 16) rfl rfl Try.func123 (by kernel_rfl) rfl #[.agg #[.slice A0_0 l0_0.length c0_0, .slice A0_1 l0_1.length c0_1], .agg #[.slice A1_0 l1_0.length c1_0, .slice A1_1 l1_1.length c1_1]] rfl gA ?_; (with_reducible refine (spec_l10Grows.calls k _ _ l0_0 _ _ l0_1 _ _ l1_0 _ _ l1_1 t798 _ ?side1 ?side2 ?side3 ?side4 ?side5 ?side6 ?side7 ?side8 A7.out).mono ?_); (case side1 => exact cB HR0_0); (case side2 => exact HC0_0.out); (case side3 => exact cB HR0_1); (case side4 => exact HC0_1.out); (case side5 => exact cB HR1_0); (case side6 => exact HC1_0.out); (case side7 => exact cB HR1_1); (case side8 => exact HC1_1.out); rintro e w17 ⟨rfl, hb⟩; refine ⟨_, rfl, ?_⟩; have n0_ := Aside0.mk (kb BK794 hb); have n1_ := Aside0.mk (kb BK795 hb); have n2_ := Aside0.mk (below_step (w := w) bW hb); clear BK794; clear BK795; clear HB; have BK794 := n0_; have BK795 := n1_; have HB := n2_; clear n0_ n1_ n2_; (try clear hb); (try clear hb2); (try clear hk); (try clear hi)))
      go_ret2
      exact ⟨rE, bW⟩
    · replace c6 := Bool.eq_false_iff.mpr c6
      subst c6
      have H1 : (some (false, 1)) = some (r1, r2) := by rw [if_neg (show ¬ (false = true) by decide)] at H; exact H
      clear H
      have H := H1
      clear H1
      simp only [Option.some.injEq, Prod.mk.injEq] at H
      obtain ⟨rfl, rfl⟩ := H
      go_enter Try.func48, Try.ntmps48
      go_wp2_with (first | ((with_reducible refine gate_dst (N := 2) rfl ?_); refine bE (N := 2) (cs := #[.slice A0_0 l0_0.length c0_0, .slice A0_1 l0_1.length c0_1]) (t := 66) ?_; intro gb794 hg w18 hbox hb; have n0_ := Aside0.mk (below_step (w := w) bW hb); have n1_ := Aside0.mk (hbox); have n2_ := Aside0.mk (gS (w := w) hg); have n3_ := n2_; clear HB; have HB := n0_; have BK794 := n1_; have GW794 := n2_; have GE794 := n3_; clear n0_ n1_ n2_ n3_; clear hb hbox hg) | ((with_reducible refine gate_dst (N := 3) rfl ?_); refine bE (N := 3) (cs := #[.slice A1_0 l1_0.length c1_0, .slice A1_1 l1_1.length c1_1]) (t := 66) ?_; intro gb795 hg w19 hbox hb; have n0_ := Aside0.mk (kb BK794 hb); have n1_ := Aside0.mk (below_step (w := w) bW hb); have n2_ := Aside0.mk (hbox); have n3_ := Aside0.mk (gS (w := w) hg); have n4_ := n3_; have n5_ := Aside0.mk (nL BK794 hg); have n6_ := Aside0.mk (nG BK794 hg); clear BK794; clear HB; have BK794 := n0_; have HB := n1_; have BK795 := n2_; have GW795 := n3_; have GE795 := n4_; have NB794_795 := n5_; have NB795_794 := n6_; clear n0_ n1_ n2_ n3_ n4_ n5_ n6_; clear hb hbox hg; have hnb20 := NB794_795.out; have hnc20 := NB795_794.out; obtain ⟨hcz21_0, hcz21_1⟩ := cz2 BK794; obtain ⟨hfz21_0, hfz21_1⟩ := fz2 BK794) | ((with_reducible refine gate_callee (f := 113) rfl ?_); refine goesL_ (some 7) rfl rfl Try.func113 (by kernel_rfl) rfl #[.agg #[.slice A0_0 l0_0.length c0_0, .slice A0_1 l0_1.length c0_1]] rfl gA ?_; (with_reducible refine (spec_l05OK.calls k _ _ l0_0 _ _ l0_1 true _ ?side1 ?side2 ?side3 ?side4 A3.out).mono ?_); (case side1 => exact cB HR0_0); (case side2 => exact HC0_0.out); (case side3 => exact cB HR0_1); (case side4 => exact HC0_1.out); rintro e w22 ⟨rfl, hb⟩; refine ⟨_, rfl, ?_⟩; have n0_ := Aside0.mk (kb BK794 hb); have n1_ := Aside0.mk (kb BK795 hb); have n2_ := Aside0.mk (below_step (w := w) bW hb); clear BK794; clear BK795; clear HB; have BK794 := n0_; have BK795 := n1_; have HB := n2_; clear n0_ n1_ n2_; (try clear hb); (try clear hb2); (try clear hk); (try clear hi); obtain ⟨hcz23_0, hcz23_1⟩ := cz2 BK795; obtain ⟨hfz23_0, hfz23_1⟩ := fz2 BK795) | (go_at_call 113; (with_reducible refine (spec_l05OK.calls k _ _ l1_0 _ _ l1_1 false _ ?side1 ?side2 ?side3 ?side4 A5.out).mono ?_); (case side1 => exact cB HR1_0); (case side2 => exact HC1_0.out); (case side3 => exact cB HR1_1); (case side4 => exact HC1_1.out); rintro e w24 ⟨rfl, hb⟩; have n0_ := Aside0.mk (kb BK794 hb); have n1_ := Aside0.mk (kb BK795 hb); have n2_ := Aside0.mk (below_step (w := w) bW hb); clear BK794; clear BK795; clear HB; have BK794 := n0_; have BK795 := n1_; have HB := n2_; clear n0_ n1_ n2_; (try clear hb); (try clear hb2); (try clear hk); (try clear hi)))
      go_ret2
      exact ⟨rE, bW⟩
  · replace c4 := Bool.eq_false_iff.mpr c4
    subst c4
    have H1 : (some (false, 1)) = some (r1, r2) := by rw [if_neg (show ¬ (false = true) by decide)] at H; exact H
    clear H
    have H := H1
    clear H1
    simp only [Option.some.injEq, Prod.mk.injEq] at H
    obtain ⟨rfl, rfl⟩ := H
    go_enter Try.func48, Try.ntmps48
    go_wp2_with (first | ((with_reducible refine gate_dst (N := 2) rfl ?_); refine bE (N := 2) (cs := #[.slice A0_0 l0_0.length c0_0, .slice A0_1 l0_1.length c0_1]) (t := 66) ?_; intro gb794 hg w25 hbox hb; have n0_ := Aside0.mk (below_step (w := w) bW hb); have n1_ := Aside0.mk (hbox); have n2_ := Aside0.mk (gS (w := w) hg); have n3_ := n2_; clear HB; have HB := n0_; have BK794 := n1_; have GW794 := n2_; have GE794 := n3_; clear n0_ n1_ n2_ n3_; clear hb hbox hg) | ((with_reducible refine gate_dst (N := 3) rfl ?_); refine bE (N := 3) (cs := #[.slice A1_0 l1_0.length c1_0, .slice A1_1 l1_1.length c1_1]) (t := 66) ?_; intro gb795 hg w26 hbox hb; have n0_ := Aside0.mk (kb BK794 hb); have n1_ := Aside0.mk (below_step (w := w) bW hb); have n2_ := Aside0.mk (hbox); have n3_ := Aside0.mk (gS (w := w) hg); have n4_ := n3_; have n5_ := Aside0.mk (nL BK794 hg); have n6_ := Aside0.mk (nG BK794 hg); clear BK794; clear HB; have BK794 := n0_; have HB := n1_; have BK795 := n2_; have GW795 := n3_; have GE795 := n4_; have NB794_795 := n5_; have NB795_794 := n6_; clear n0_ n1_ n2_ n3_ n4_ n5_ n6_; clear hb hbox hg; have hnb27 := NB794_795.out; have hnc27 := NB795_794.out; obtain ⟨hcz28_0, hcz28_1⟩ := cz2 BK794; obtain ⟨hfz28_0, hfz28_1⟩ := fz2 BK794) | ((with_reducible refine gate_callee (f := 113) rfl ?_); refine goesL_ (some 7) rfl rfl Try.func113 (by kernel_rfl) rfl #[.agg #[.slice A0_0 l0_0.length c0_0, .slice A0_1 l0_1.length c0_1]] rfl gA ?_; (with_reducible refine (spec_l05OK.calls k _ _ l0_0 _ _ l0_1 false _ ?side1 ?side2 ?side3 ?side4 A3.out).mono ?_); (case side1 => exact cB HR0_0); (case side2 => exact HC0_0.out); (case side3 => exact cB HR0_1); (case side4 => exact HC0_1.out); rintro e w29 ⟨rfl, hb⟩; refine ⟨_, rfl, ?_⟩; have n0_ := Aside0.mk (kb BK794 hb); have n1_ := Aside0.mk (kb BK795 hb); have n2_ := Aside0.mk (below_step (w := w) bW hb); clear BK794; clear BK795; clear HB; have BK794 := n0_; have BK795 := n1_; have HB := n2_; clear n0_ n1_ n2_; (try clear hb); (try clear hb2); (try clear hk); (try clear hi)))
    go_ret2
    exact ⟨rE, bW⟩
end Go.Proofs.Ytcpljigliklgcaa.Q
end

section
namespace Go.Proofs.Ytcpljigliklgcaa.Q
open Go.RowKit Go.Proofs.YtcpljigliklgcaaW.PrintWords Go.Proofs.YtcpljigliklgcaaW.PrintLast Go.Proofs.YtcpljigliklgcaaW.PrintMore
attribute [local go_sem] max2_int min2_int max_two min_two max_three min_three max_four min_four   -- for this text's walks alone
set_option linter.unusedVariables false
set_option linter.unusedSimpArgs false
attribute [local go_sem] bin_leq bin_gtr bin_geq
def idxI {α : Type} (p : α → Bool) (l : List α) : Int := match l.findIdx? p with | some i => (i : Int) | none => -1
theorem idxI_none {α : Type} {p : α → Bool} {l : List α} (h : ∀ j (hj : j < l.length), p l[j] = false) : idxI p l = -1 := by
  unfold idxI
  rw [List.findIdx?_eq_none_iff.mpr]
  intro x hx
  obtain ⟨j, hj, rfl⟩ := List.mem_iff_getElem.mp hx
  exact h j hj
theorem idxI_some {α : Type} {p : α → Bool} {l : List α} {i : Nat} (hi : i < l.length) (h : ∀ j (hj : j < i), p (l[j]'(by omega)) = false) (hp : p l[i] = true) : idxI p l = i := by
  unfold idxI
  rw [List.findIdx?_eq_some_iff_getElem.mpr ⟨hi, hp, fun j hj => by simp [h j hj]⟩]
theorem idxI_all {α : Type} (p : α → Bool) (l : List α) : (!decide (0 ≤ idxI (fun x => !p x) l)) = l.all p := by
  unfold idxI
  cases h : l.findIdx? (fun x => !p x) with
  | none =>
    have h2 := List.findIdx?_eq_none_iff.mp h
    have : l.all p = true := List.all_eq_true.mpr (fun x hx => by simpa using h2 x hx)
    rw [this]; decide
  | some i =>
    obtain ⟨hi, hp, _⟩ := List.findIdx?_eq_some_iff_getElem.mp h
    have : l.all p = false := by
      rw [Bool.eq_false_iff]
      intro ha
      have := List.all_eq_true.mp ha l[i] (List.getElem_mem hi)
      simp [this] at hp
    rw [this]
    have h0 : (0 : Int) ≤ (i : Int) := by omega
    simp [h0]
theorem enters_ {P : Program} {f : FuncId} {fn : Func} {c : Code} (hf : P.funcs[f]? = some fn) (hname : (fn.name == "runtime.NumGoroutine") = false) (hb : fn.body = some c) : ∀ (args : Array Value) (w : World), (callFunc f args).run P w = .ok (.enter f args) w := by
  intro args w
  have h1 : fn.name ≠ "runtime.NumGoroutine" := by simpa using hname
  simp [callFunc, hf, h1, hb, mark]
end Go.Proofs.Ytcpljigliklgcaa.Q
end

section
namespace Go.Proofs.Ytcpljigliklgcaa.Q
open Go.RowKit Go.Proofs.YtcpljigliklgcaaW.PrintWords Go.Proofs.YtcpljigliklgcaaW.PrintLast Go.Proofs.YtcpljigliklgcaaW.PrintMore
attribute [local go_sem] max2_int min2_int max_two min_two max_three min_three max_four min_four   -- for this text's walks alone
set_option linter.unusedVariables false
set_option linter.unusedSimpArgs false
attribute [local go_sem] bin_leq bin_gtr bin_geq
def Asks_Ref (g : Nat) (lb : Array Value) (p : S178 → Bool) (w : World) (l : List S178) : Prop :=
  ∀ (W : World) (x : S178), Below w.heap.size w W → x ∈ l → Calls Try.prog g (#[.agg #[.string x.f0, .int .i64 x.f1, .int .i64 x.f2, .bool x.f3]] ++ lb) W fun e w' => e = .returned (.bool (p x)) ∧ Below W.heap.size W w'
set_option maxHeartbeats 2000000 in
set_option maxRecDepth 100000 in
theorem idxF_Ref (g : Nat) (lb : Array Value) (eg : ∀ args w, (callFunc g args).run Try.prog w = .ok (.enter g args) w) (p : S178 → Bool) (A0 : Option Addr) (c0 : Nat) (l0 : List S178) (w : World) (hr0 : Kd.C k178 w A0 l0.length l0) (hc0 : l0.length ≤ c0) (hp : Asks_Ref g lb p w l0) :
    Calls Try.prog 221 #[.slice A0 l0.length c0, .func (.func g) #[] lb] w fun e w' => e = .returned (.int .i64 (idxI p l0)) ∧ Below w.heap.size w w' := by
  have HM : l0.length ≤ 9223372036854775807 := hr0.2.1
  have HR0 := Aside0.mk hr0
  have HP := Aside0.mk hp
  clear hr0 hc0 hp
  go_enter Try.func221, Try.ntmps221
  go_wp2
  go_loopg [8] l0.length (fun gk v8 w' => ∃ kk : Nat, kk ≤ l0.length ∧ l0.length - kk ≤ gk ∧ v8 = .int .i64 kk ∧ Aside0 (∀ j (hj : j < l0.length), j < kk → p l0[j] = false) ∧ Aside0 (Below w.heap.size w w'))
  case atStart => exact ⟨0, Nat.zero_le _, by omega, rfl, ⟨fun j hj h => absurd h (Nat.not_lt_zero _)⟩, ⟨Below.refl _ _⟩⟩
  case round =>
    obtain ⟨kk, hkk, hg, rfl, HA, HB⟩ := hrel
    by_cases hlt : kk < l0.length
    · have hltz : (kk : Int) < (l0.length : Int) := by omega
      have HRW := Aside0.mk (Kd.C_below HR0.out HB.out)
      obtain ⟨ad, e1, hx0, hx1, hx2, hx3⟩ := at_T178 HRW.out (kk : Int) (by omega) hltz
      cases e1
      have ex : rd_T178 l0 (kk : Int) = l0[kk] := by simp [rd_T178, List.getD_eq_getElem?_getD, List.getElem?_eq_getElem hlt]
      rw [ex] at hx0 hx1 hx2 hx3
      simp only [Int.toNat_natCast] at hx0 hx1 hx2 hx3
      have hcall := HP.out _ l0[kk] HB.out (List.getElem_mem hlt)
      obtain ⟨y, hy⟩ : ∃ y, y = l0[kk] := ⟨_, rfl⟩
      rw [← hy] at hx0 hx1 hx2 hx3 hcall
      have HY := Aside0.mk hy
      clear hy ex
      cases hq : p y with
      | true =>
        rw [hq] at hcall
        have HC := Aside0.mk hcall
        have HQ := Aside0.mk hq
        clear hcall hq
        go_wp2_with ((with_reducible refine HC.out.mono ?_); rintro e w' ⟨rfl, hb'⟩)
        go_ret
        refine ⟨?_, below_then HB.out HB.out.size hb'⟩
        rw [idxI_some hlt (fun j hj => HA.out j (by omega) hj) (by rw [← HY.out]; exact HQ.out)]; rfl
      | false =>
        rw [hq] at hcall
        have HC := Aside0.mk hcall
        have HQ := Aside0.mk hq
        clear hcall hq
        go_wp2_with ((with_reducible refine HC.out.mono ?_); rintro e w' ⟨rfl, hb'⟩)
        go_roundg (l0.length - (kk + 1))
        case measure => omega
        case rel =>
          refine ⟨kk + 1, by omega, by omega, by go_num, ⟨fun j hj h => ?_⟩, ⟨below_then HB.out HB.out.size hb'⟩⟩
          by_cases e : j = kk
          · subst e
            rw [← HY.out]; exact HQ.out
          · exact HA.out j hj (by omega)
    · have hltz : ¬ (kk : Int) < (l0.length : Int) := by omega
      obtain rfl : kk = l0.length := by omega
      go_wp2
      go_ret
      exact ⟨by rw [idxI_none (fun j hj => HA.out j hj (by omega))]; rfl, HB.out⟩
end Go.Proofs.Ytcpljigliklgcaa.Q
end

section
namespace Go.Proofs.Ytcpljigliklgcaa.Q
open Go.RowKit Go.Proofs.YtcpljigliklgcaaW.PrintWords Go.Proofs.YtcpljigliklgcaaW.PrintLast Go.Proofs.YtcpljigliklgcaaW.PrintMore
attribute [local go_sem] max2_int min2_int max_two min_two max_three min_three max_four min_four   -- for this text's walks alone
set_option linter.unusedVariables false
set_option linter.unusedSimpArgs false
attribute [local go_sem] bin_leq bin_gtr bin_geq
def refB (x : S178) : Bool := nameB x.f0 && inB x.f2 1 1000000 && (if x.f3 then x.f1 == 0 else inB x.f1 1 60)
def isNm (n : ByteArray) (x : S178) : Bool := x.f0.toList == n.toList
def placeI (l : List S178) (n : ByteArray) : Int := idxI (isNm n) l
def refsB (l : List S178) : Bool := decide (l.length ≤ 8) && (l.all refB && allR (fun j => decide (placeI (l.take j) (rd_T178 l (j : Int)).f0 < 0)) l.length)
end Go.Proofs.Ytcpljigliklgcaa.Q
end

section
namespace Go.Proofs.Ytcpljigliklgcaa.Q
open Go.RowKit Go.Proofs.YtcpljigliklgcaaW.PrintWords Go.Proofs.YtcpljigliklgcaaW.PrintLast Go.Proofs.YtcpljigliklgcaaW.PrintMore
attribute [local go_sem] max2_int min2_int max_two min_two max_three min_three max_four min_four   -- for this text's walks alone
set_option linter.unusedVariables false
set_option linter.unusedSimpArgs false
attribute [local go_sem] bin_leq bin_gtr bin_geq
def impl_place.f (l0 : List (S178)) (a1 : ByteArray) : Option (Int) := some (placeI l0 a1)
theorem place_asks (name : ByteArray) (B : Nat) (l : List S178) (w : World) (hB : B < w.heap.size) (hc : w.cell? ⟨B, 0, none⟩ = some (.string name)) :
    Asks_Ref 222 #[.pointer (some ⟨B, 0, none⟩)] (isNm name) w l := by
  intro W x hW hx
  have hc' : W.cell? ⟨B, 0, none⟩ = some (.string name) := (hW.cell (p := ⟨B, 0, none⟩) hB).trans hc
  have hB' : B < W.heap.size := Nat.lt_of_lt_of_le hB hW.size
  have HBX : Below W.heap.size W (W.alloc (.cells #[.string x.f0, .int .i64 x.f1, .int .i64 x.f2, .bool x.f3] 178)) := (Below.refl _ _).alloc (Nat.le_refl _) _
  have hcb : (W.alloc (.cells #[.string x.f0, .int .i64 x.f1, .int .i64 x.f2, .bool x.f3] 178)).cell? ⟨B, 0, none⟩ = some (.string name) := (HBX.cell (p := ⟨B, 0, none⟩) hB').trans hc'
  have HBA := Aside0.mk HBX
  clear hx hc HBX hc' hW hB
  go_enter Try.func222, Try.ntmps222
  go_wp2
  go_ret
  exact ⟨rfl, HBA.out⟩
set_option maxHeartbeats 2000000 in
set_option maxRecDepth 100000 in
theorem impl_place.calls (A0 : Option Addr) (c0 : Nat) (l0 : List (S178)) (a1 : ByteArray) (r : Int) (w : World) (hr0 : Kd.C k178 w A0 l0.length l0) (hc0 : l0.length ≤ c0) (h : impl_place.f l0 a1 = some r) :
    Calls Try.prog 156 #[.slice A0 l0.length c0, .string a1] w fun e w' => e = .returned (.int .i64 r) ∧ Below w.heap.size w w' := by
  obtain rfl := Option.some.inj h
  clear h
  have HB0 : Below w.heap.size w (w.alloc (.cells #[.string a1] 9)) := (Below.refl _ _).alloc (Nat.le_refl _) _
  have HR0 := Aside0.mk (Kd.C_below hr0 HB0)
  have HP := Aside0.mk (place_asks a1 w.heap.size l0 (w.alloc (.cells #[.string a1] 9)) (by simp) (by simp))
  have HC0 := Aside0.mk hc0
  have HBA := Aside0.mk HB0
  clear hr0 hc0 HB0
  go_enter Try.func156, Try.ntmps156
  go_wp2_with (refine (idxF_Ref 222 #[.pointer (some ⟨w.heap.size, 0, none⟩)] (enters_ Try.func222 (by kernel_rfl) rfl) (isNm a1) A0 c0 l0 _ HR0.out HC0.out HP.out).mono ?_; rintro e w' ⟨rfl, hb⟩)
  go_ret
  exact ⟨rfl, below_then HBA.out HBA.out.size hb⟩
end Go.Proofs.Ytcpljigliklgcaa.Q
end

section
namespace Go.Proofs.Ytcpljigliklgcaa.Q
open Go.RowKit Go.Proofs.YtcpljigliklgcaaW.PrintWords Go.Proofs.YtcpljigliklgcaaW.PrintLast Go.Proofs.YtcpljigliklgcaaW.PrintMore
attribute [local go_sem] max2_int min2_int max_two min_two max_three min_three max_four min_four   -- for this text's walks alone
set_option linter.unusedVariables false
set_option linter.unusedSimpArgs false
attribute [local go_sem] bin_leq bin_gtr bin_geq
def impl_within.f (a0 : Int) (a1 : Int) (a2 : Int) : Option (Bool) := if a1 ≤ a0 then (some (decide (a0 ≤ a2))) else (some false)
set_option maxHeartbeats 8000000 in
set_option maxRecDepth 100000 in
theorem impl_within.calls (a0 : Int) (a1 : Int) (a2 : Int) (r : Bool) (w : World) (h : impl_within.f a0 a1 a2 = some r) :
    Calls Try.prog 169 #[.int .i64 a0, .int .i64 a1, .int .i64 a2] w fun e w' => e = .returned (.bool r) ∧ Drawn0 w w' := by
  have H : (if a1 ≤ a0 then (some (decide (a0 ≤ a2))) else (some false)) = some r := h
  clear h
  by_cases c4 : a1 ≤ a0
  · rw [if_pos c4] at H
    have c4b0 : decide (a1 ≤ a0) = true := decide_eq_true c4
    clear c4
    obtain rfl := Option.some.inj H
    go_enter Try.func169, Try.ntmps169
    go_wp2
    go_ret
    exact ⟨by first | rfl | (simp; done) | (simp [*]; done), by repeat (first | exact Drawn0.refl _ | apply Drawn0.step)⟩
  · rw [if_neg c4] at H
    have c4b0 : decide (a1 ≤ a0) = false := decide_eq_false c4
    clear c4
    obtain rfl := Option.some.inj H
    go_enter Try.func169, Try.ntmps169
    go_wp2
    go_ret
    exact ⟨by first | rfl | (simp; done) | (simp [*]; done), by repeat (first | exact Drawn0.refl _ | apply Drawn0.step)⟩
end Go.Proofs.Ytcpljigliklgcaa.Q
end

section
namespace Go.Proofs.Ytcpljigliklgcaa.Q
open Go.RowKit Go.Proofs.YtcpljigliklgcaaW.PrintWords Go.Proofs.YtcpljigliklgcaaW.PrintLast Go.Proofs.YtcpljigliklgcaaW.PrintMore
attribute [local go_sem] max2_int min2_int max_two min_two max_three min_three max_four min_four   -- for this text's walks alone
set_option linter.unusedVariables false
set_option linter.unusedSimpArgs false
attribute [local go_sem] bin_leq bin_gtr bin_geq
def Asks_byte (g : Nat) (lb : Array Value) (p : Int → Bool) (w : World) (l : List Int) : Prop :=
  ∀ (W : World) (x : Int), Below w.heap.size w W → x ∈ l → Calls Try.prog g (#[.int .u8 x] ++ lb) W fun e w' => e = .returned (.bool (p x)) ∧ Below W.heap.size W w'
set_option maxHeartbeats 2000000 in
set_option maxRecDepth 100000 in
theorem idxF_byte (g : Nat) (lb : Array Value) (eg : ∀ args w, (callFunc g args).run Try.prog w = .ok (.enter g args) w) (p : Int → Bool) (A0 : Option Addr) (c0 : Nat) (l0 : List Int) (w : World) (hr0 : Kd.C (Kd.int .u8) w A0 l0.length l0) (hc0 : l0.length ≤ c0) (hp : Asks_byte g lb p w l0) :
    Calls Try.prog 255 #[.slice A0 l0.length c0, .func (.func g) #[] lb] w fun e w' => e = .returned (.int .i64 (idxI p l0)) ∧ Below w.heap.size w w' := by
  have HM : l0.length ≤ 9223372036854775807 := hr0.2.1
  have HR0 := Aside0.mk hr0
  have HP := Aside0.mk hp
  clear hr0 hc0 hp
  go_enter Try.func255, Try.ntmps255
  go_wp2
  go_loopg [8] l0.length (fun gk v8 w' => ∃ kk : Nat, kk ≤ l0.length ∧ l0.length - kk ≤ gk ∧ v8 = .int .i64 kk ∧ Aside0 (∀ j (hj : j < l0.length), j < kk → p l0[j] = false) ∧ Aside0 (Below w.heap.size w w'))
  case atStart => exact ⟨0, Nat.zero_le _, by omega, rfl, ⟨fun j hj h => absurd h (Nat.not_lt_zero _)⟩, ⟨Below.refl _ _⟩⟩
  case round =>
    obtain ⟨kk, hkk, hg, rfl, HA, HB⟩ := hrel
    by_cases hlt : kk < l0.length
    · have hltz : (kk : Int) < (l0.length : Int) := by omega
      have HRW := Aside0.mk (Kd.C_below HR0.out HB.out)
      obtain ⟨ad, e1, hx⟩ := Kd.at_int HRW.out (kk : Int) (by omega) hltz
      cases e1
      have ex : rd l0 (kk : Int) = l0[kk] := by simp [rd, List.getD_eq_getElem?_getD, List.getElem?_eq_getElem hlt]
      rw [ex] at hx
      simp only [Int.toNat_natCast] at hx
      have hcall := HP.out _ l0[kk] HB.out (List.getElem_mem hlt)
      obtain ⟨y, hy⟩ : ∃ y, y = l0[kk] := ⟨_, rfl⟩
      rw [← hy] at hx hcall
      have HY := Aside0.mk hy
      clear hy ex
      cases hq : p y with
      | true =>
        rw [hq] at hcall
        have HC := Aside0.mk hcall
        have HQ := Aside0.mk hq
        clear hcall hq
        go_wp2_with ((with_reducible refine HC.out.mono ?_); rintro e w' ⟨rfl, hb'⟩)
        go_ret
        refine ⟨?_, below_then HB.out HB.out.size hb'⟩
        rw [idxI_some hlt (fun j hj => HA.out j (by omega) hj) (by rw [← HY.out]; exact HQ.out)]; rfl
      | false =>
        rw [hq] at hcall
        have HC := Aside0.mk hcall
        have HQ := Aside0.mk hq
        clear hcall hq
        go_wp2_with ((with_reducible refine HC.out.mono ?_); rintro e w' ⟨rfl, hb'⟩)
        go_roundg (l0.length - (kk + 1))
        case measure => omega
        case rel =>
          refine ⟨kk + 1, by omega, by omega, by go_num, ⟨fun j hj h => ?_⟩, ⟨below_then HB.out HB.out.size hb'⟩⟩
          by_cases e : j = kk
          · subst e
            rw [← HY.out]; exact HQ.out
          · exact HA.out j hj (by omega)
    · have hltz : ¬ (kk : Int) < (l0.length : Int) := by omega
      obtain rfl : kk = l0.length := by omega
      go_wp2
      go_ret
      exact ⟨by rw [idxI_none (fun j hj => HA.out j hj (by omega))]; rfl, HB.out⟩
end Go.Proofs.Ytcpljigliklgcaa.Q
end

section
namespace Go.Proofs.Ytcpljigliklgcaa.Q
open Go.RowKit Go.Proofs.YtcpljigliklgcaaW.PrintWords Go.Proofs.YtcpljigliklgcaaW.PrintLast Go.Proofs.YtcpljigliklgcaaW.PrintMore
attribute [local go_sem] max2_int min2_int max_two min_two max_three min_three max_four min_four   -- for this text's walks alone
set_option linter.unusedVariables false
set_option linter.unusedSimpArgs false
attribute [local go_sem] bin_leq bin_gtr bin_geq
set_option maxHeartbeats 2000000 in
set_option maxRecDepth 100000 in
theorem hasF_byte (g : Nat) (lb : Array Value) (eg : ∀ args w, (callFunc g args).run Try.prog w = .ok (.enter g args) w) (p : Int → Bool) (A0 : Option Addr) (c0 : Nat) (l0 : List Int) (w : World) (hr0 : Kd.C (Kd.int .u8) w A0 l0.length l0) (hc0 : l0.length ≤ c0) (hp : Asks_byte g lb p w l0) :
    Calls Try.prog 237 #[.slice A0 l0.length c0, .func (.func g) #[] lb] w fun e w' => e = .returned (.bool (decide (0 ≤ idxI p l0))) ∧ Below w.heap.size w w' := by
  have HR0 := Aside0.mk hr0
  have HC0 := Aside0.mk hc0
  have HP := Aside0.mk hp
  have HE := Aside0.mk eg
  clear hr0 hc0 hp eg
  go_enter Try.func237, Try.ntmps237
  go_wp2_with (refine (idxF_byte g lb HE.out p A0 c0 l0 _ HR0.out HC0.out HP.out).mono ?_; rintro e w' ⟨rfl, hb⟩)
  go_ret
  exact ⟨rfl, hb⟩
theorem notF_byte (g : Nat) (lb : Array Value) (eg : ∀ args w, (callFunc g args).run Try.prog w = .ok (.enter g args) w) (p : Int → Bool) (l : List Int) (w : World) (B : Nat) (hB : B < w.heap.size) (hc : w.cell? ⟨B, 0, none⟩ = some (.func (.func g) #[] lb)) (hp : Asks_byte g lb p w l) :
    Asks_byte 238 #[.pointer (some ⟨B, 0, none⟩)] (fun x => !p x) w l := by
  intro W x hW hx
  have hc' : W.cell? ⟨B, 0, none⟩ = some (.func (.func g) #[] lb) := (hW.cell (p := ⟨B, 0, none⟩) hB).trans hc
  have hB' : B < W.heap.size := Nat.lt_of_lt_of_le hB hW.size
  have HC := Aside0.mk (hp W x hW hx)
  clear hp hx hc
  go_enter Try.func238, Try.ntmps238
  go_wp2_with (refine HC.out.mono ?_; rintro e w' ⟨rfl, hb⟩)
  go_ret
  exact ⟨rfl, hb⟩
set_option maxHeartbeats 2000000 in
set_option maxRecDepth 100000 in
theorem allF_byte (g : Nat) (lb : Array Value) (eg : ∀ args w, (callFunc g args).run Try.prog w = .ok (.enter g args) w) (p : Int → Bool) (A0 : Option Addr) (c0 : Nat) (l0 : List Int) (w : World) (hr0 : Kd.C (Kd.int .u8) w A0 l0.length l0) (hc0 : l0.length ≤ c0) (hp : Asks_byte g lb p w l0) :
    Calls Try.prog 180 #[.slice A0 l0.length c0, .func (.func g) #[] lb] w fun e w' => e = .returned (.bool (l0.all p)) ∧ Below w.heap.size w w' := by
  have e94 := idxI_all p l0
  have HN := Aside0.mk e94
  have HB0 : Below w.heap.size w (w.alloc (.cells #[.func (.func g) #[] lb] 205)) := (Below.refl _ _).alloc (Nat.le_refl _) _
  have HR0 := Aside0.mk (Kd.C_below hr0 HB0)
  have HP := Aside0.mk (notF_byte g lb eg p l0 (w.alloc (.cells #[.func (.func g) #[] lb] 205)) w.heap.size (by simp) (by simp) (fun W x hW hx => hp W x (below_then HB0 HB0.size hW) hx))
  have HC0 := Aside0.mk hc0
  have HBA := Aside0.mk HB0
  clear hr0 hc0 hp eg e94 HB0
  go_enter Try.func180, Try.ntmps180
  go_wp2_with (refine (hasF_byte 238 #[.pointer (some ⟨w.heap.size, 0, none⟩)] (enters_ Try.func238 (by kernel_rfl) rfl) (fun x => !p x) A0 c0 l0 _ HR0.out HC0.out HP.out).mono ?_; rintro e w' ⟨rfl, hb⟩)
  go_ret
  refine ⟨?_, below_then HBA.out HBA.out.size hb⟩
  show Ending.returned (.bool (!decide (0 ≤ idxI (fun x => !p x) l0))) = _
  rw [HN.out]
end Go.Proofs.Ytcpljigliklgcaa.Q
end

section
namespace Go.Proofs.Ytcpljigliklgcaa.Q
open Go.RowKit Go.Proofs.YtcpljigliklgcaaW.PrintWords Go.Proofs.YtcpljigliklgcaaW.PrintLast Go.Proofs.YtcpljigliklgcaaW.PrintMore
attribute [local go_sem] max2_int min2_int max_two min_two max_three min_three max_four min_four   -- for this text's walks alone
set_option linter.unusedVariables false
set_option linter.unusedSimpArgs false
attribute [local go_sem] bin_leq bin_gtr bin_geq
def impl_NameOK.f (a0 : ByteArray) : Option (Bool) := some (nameB a0)
theorem nameOK_asks (l : List Int) (w : World) : Asks_byte 181 #[] (fun c => letB c || digB c) w l := by
  intro W x hW hx
  have A1 := Aside0.mk (impl_isLetter.calls x (letB x))
  have A2 := Aside0.mk (impl_isDigit.calls x (digB x))
  have F1 := Aside0.mk (letB_f x)
  have F2 := Aside0.mk (digB_f x)
  cases h1 : letB x with
  | true =>
    rw [h1] at A1 F1
    clear A2
    go_enter Try.func181, Try.ntmps181
    go_wp2_with (refine (A1.out _ F1.out).mono ?_; rintro e w' ⟨rfl, ⟨n, rfl⟩⟩)
    go_ret
    exact ⟨by first | rfl | simp [h1], pw_below_drewN (Below.refl _ _) _⟩
  | false =>
    rw [h1] at A1 F1
    go_enter Try.func181, Try.ntmps181
    go_wp2_with (first | (go_at_call 179; refine (A1.out _ F1.out).mono ?_; rintro e w' ⟨rfl, ⟨n, rfl⟩⟩) | (go_at_call 182; refine (A2.out _ F2.out).mono ?_; rintro e w' ⟨rfl, ⟨n, rfl⟩⟩))
    go_ret
    exact ⟨by first | rfl | simp [h1], by repeat (first | exact Below.refl _ _ | apply pw_below_drewN)⟩
set_option maxHeartbeats 4000000 in
set_option maxRecDepth 100000 in
theorem impl_NameOK.calls (a0 : ByteArray) (r : Bool) (w : World) (h : impl_NameOK.f a0 = some r) :
    Calls Try.prog 110 #[.string a0] w fun e w' => e = .returned (.bool r) ∧ Below w.heap.size w w' := by
  obtain rfl := Option.some.inj h
  clear h
  by_cases h1 : 1 ≤ a0.size ∧ a0.size ≤ 12
  · have F1 := Aside0.mk (show impl_within.f (a0.size : Int) 1 12 = some true by unfold impl_within.f; rw [if_pos (by omega), decide_eq_true (by omega)])
    have F2 := Aside0.mk (letB_f (bt a0 0))
    have i0 : (0 : Int) < (a0.size : Int) := by omega
    have hbt : ∀ h : 0 < a0.size, ((a0[0]'h).toNat : Int) = bt a0 0 := bt_at a0 0
    have j0 : 0 < a0.size := by omega
    cases h2 : letB (bt a0 0) with
    | true =>
      rw [h2] at F2
      have hcv := fun w => Go.Lib.run_convert_string_bytes (P := Try.prog) w 9 43 5 a0 Try.underlying9 Try.underlying43 Try.underlying5
      have R1 := Aside0.mk (show nameB a0 = (bytesL a0).all (fun c => letB c || digB c) by simp [nameB, h1.1, h1.2, h2])
      have hsz : a0.size ≤ 9223372036854775807 := by omega
      have hn := Aside0.mk h1
      clear h1
      go_enter Try.func110, Try.ntmps110
      go_wp2_with fail
      refine (impl_within.calls (a0.size : Int) 1 12 true _ F1.out).mono ?_
      rintro e w' ⟨rfl, ⟨nd, rfl⟩⟩
      go_wp2_with fail

      refine (impl_isLetter.calls (bt a0 0) true _ F2.out).mono ?_
      rintro e w' ⟨rfl, ⟨nd2, rfl⟩⟩
      go_wp2_with fail
      have HBx := below_bytes (w.drewN (nd + nd2)) a0 5
      have HBy : Below w.heap.size w (Go.Lib.bytesWorld (w.drewN (nd + nd2)) 5 a0) := below_then (pw_below_drewN (Below.refl _ _) _) (Nat.le_refl _) HBx
      have hA := allF_byte 181 #[] (enters_ Try.func181 (by kernel_rfl) rfl) (fun c => letB c || digB c) _ (grownCap (w.drewN (nd + nd2)) a0.size 0 5) (bytesL a0) (Go.Lib.bytesWorld (w.drewN (nd + nd2)) 5 a0) (bytesL_cells (w.drewN (nd + nd2)) a0 hsz) (by rw [bytesL_length]; exact grownCap_ge _ _ _ _) (nameOK_asks _ _)
      rw [bytesL_length] at hA
      refine hA.mono ?_
      rintro e w' ⟨rfl, hb⟩
      have hb2 := Aside0.mk (below_then HBy HBy.size hb)
      clear hb HBx HBy hA
      go_wp2
      go_ret
      exact ⟨by rw [R1.out]; rfl, hb2.out⟩
    | false =>
      rw [h2] at F2
      have R1 := Aside0.mk (show nameB a0 = false by simp [nameB, h2])
      have hn := Aside0.mk h1
      clear h1
      go_enter Try.func110, Try.ntmps110
      go_wp2_with fail
      refine (impl_within.calls (a0.size : Int) 1 12 true _ F1.out).mono ?_
      rintro e w' ⟨rfl, ⟨nd, rfl⟩⟩
      go_wp2_with fail
      refine (impl_isLetter.calls (bt a0 0) false _ F2.out).mono ?_
      rintro e w' ⟨rfl, ⟨nd2, rfl⟩⟩
      go_wp2
      go_ret
      exact ⟨by rw [R1.out]; rfl, by repeat (first | exact Below.refl _ _ | apply pw_below_drewN)⟩
  · have F1 := Aside0.mk (show impl_within.f (a0.size : Int) 1 12 = some false by
      unfold impl_within.f
      by_cases h3 : 1 ≤ (a0.size : Int)
      · rw [if_pos h3, decide_eq_false (by omega)]
      · rw [if_neg h3])
    have R1 := Aside0.mk (show nameB a0 = false by
      unfold nameB
      by_cases h3 : 1 ≤ a0.size
      · have h4 : ¬ a0.size ≤ 12 := by omega
        simp [h4]
      · simp [h3])
    clear h1
    go_enter Try.func110, Try.ntmps110
    go_wp2_with fail
    refine (impl_within.calls (a0.size : Int) 1 12 false _ F1.out).mono ?_
    rintro e w' ⟨rfl, ⟨nd, rfl⟩⟩
    go_wp2
    go_ret
    exact ⟨by rw [R1.out]; rfl, by repeat (first | exact Below.refl _ _ | apply pw_below_drewN)⟩
end Go.Proofs.Ytcpljigliklgcaa.Q
end

section
namespace Go.Proofs.Ytcpljigliklgcaa.Q
open Go.RowKit Go.Proofs.YtcpljigliklgcaaW.PrintWords Go.Proofs.YtcpljigliklgcaaW.PrintLast Go.Proofs.YtcpljigliklgcaaW.PrintMore
attribute [local go_sem] max2_int min2_int max_two min_two max_three min_three max_four min_four   -- for this text's walks alone
set_option linter.unusedVariables false
set_option linter.unusedSimpArgs false
attribute [local go_sem] bin_leq bin_gtr bin_geq
def impl_isHead.f (a0 : Int) : Option (Bool) := (impl_within.f a0 1 60).bind fun t621 => (some t621)
set_option maxHeartbeats 8000000 in
set_option maxRecDepth 100000 in
theorem impl_isHead.calls (a0 : Int) (r : Bool) (w : World) (h : impl_isHead.f a0 = some r) :
    Calls Try.prog 150 #[.int .i64 a0] w fun e w' => e = .returned (.bool r) ∧ Drawn0 w w' := by
  have H : ((impl_within.f a0 1 60).bind fun t621 => (some t621)) = some r := h
  clear h
  replace H := Option.bind_eq_some_iff.mp H
  obtain ⟨t621, A20, H⟩ := H
  replace H : (some t621) = some r := H
  have A2 := Aside0.mk A20
  clear A20
  obtain rfl := Option.some.inj H
  go_enter Try.func150, Try.ntmps150
  go_wp2_with (first | ((with_reducible refine gate_callee (f := 169) rfl ?_); refine goesL_ (some 4) rfl rfl Try.func169 (by kernel_rfl) rfl #[.int .i64 a0, .int .i64 1, .int .i64 60] rfl gA ?_; (with_reducible refine (impl_within.calls a0 1 60 t621 _ A2.out).mono ?_); rintro e w' ⟨rfl, ⟨nd, rfl⟩⟩; refine ⟨_, rfl, ?_⟩))
  go_ret
  exact ⟨by first | rfl | (simp; done) | (simp [*]; done), by repeat (first | exact Drawn0.refl _ | apply Drawn0.step)⟩
end Go.Proofs.Ytcpljigliklgcaa.Q
end
