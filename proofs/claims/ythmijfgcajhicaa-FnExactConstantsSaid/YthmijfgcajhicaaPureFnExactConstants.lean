/- For every input the law FnExactConstants returns true: the constants are what the reference has. -/
import Derived.Test.YthmijfgcajhicaaQf3
namespace Go.Proofs.Ythmijfgcajhicaa.Pure
open Go.RowKit Go.Proofs.Ythmijfgcajhicaa.Q Go.Proofs.YthmijfgcajhicaaW.PrintWords Go.Proofs.YthmijfgcajhicaaW.PrintLast
theorem FnExactConstants : laws_FnExactConstants.Pure := rfl
end Go.Proofs.Ythmijfgcajhicaa.Pure
