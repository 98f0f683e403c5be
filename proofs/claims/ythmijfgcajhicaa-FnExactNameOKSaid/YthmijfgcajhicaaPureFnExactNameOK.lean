/- For every input the law FnExactNameOK returns true: the program's NameOK returns what the reference's returns. -/
import Derived.Test.YthmijfgcajhicaaQf8
import Derived.Test.YthmijfgcajhicaaQawords
namespace Go.Proofs.Ythmijfgcajhicaa.Pure
open Go.RowKit Go.Proofs.Ythmijfgcajhicaa.Q Go.Proofs.YthmijfgcajhicaaW.PrintWords Go.Proofs.YthmijfgcajhicaaW.PrintLast
theorem FnExactNameOK : laws_FnExactNameOK.Pure := by
  intro a0 _
  refine ⟨20, ?_⟩
  unfold laws_FnExactNameOK.f spec_NameOK.f impl_NameOK.f
  simp only [l00Word_f, Option.bind_some]
  split <;> simp
end Go.Proofs.Ythmijfgcajhicaa.Pure
