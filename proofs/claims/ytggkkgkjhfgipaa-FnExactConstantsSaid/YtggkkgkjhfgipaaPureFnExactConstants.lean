/- PROVED: the printed function of FnExactConstants answers true: every exported constant of the program is the document's. Conditions: none. -/
import Derived.Test.YtggkkgkjhfgipaaPFnExactConstantsx1
namespace Go.Proofs.Ytggkkgkjhfgipaa.Pure
open Go.RowKit Go.Proofs.Ytggkkgkjhfgipaa.PFnExactConstants Go.Proofs.YtggkkgkjhfgipaaW.PrintWords Go.Proofs.YtggkkgkjhfgipaaW.PrintLast

theorem FnExactConstants : laws_FnExactConstants.Pure := rfl

end Go.Proofs.Ytggkkgkjhfgipaa.Pure
