/- FnExactConstants returns true, whatever the input; there is no condition. -/
import Derived.Test.YtebmbjkikibjfaaPFnExactConstantsx1
namespace Go.Proofs.Ytebmbjkikibjfaa.Pure
open Go.RowKit Go.Proofs.Ytebmbjkikibjfaa.PFnExactConstants Go.Proofs.YtebmbjkikibjfaaW.PrintWords Go.Proofs.YtebmbjkikibjfaaW.PrintLast

theorem FnExactConstants : laws_FnExactConstants.Pure := rfl

end Go.Proofs.Ytebmbjkikibjfaa.Pure
