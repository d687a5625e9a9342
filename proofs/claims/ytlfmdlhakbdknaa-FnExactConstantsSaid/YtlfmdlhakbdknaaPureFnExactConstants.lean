/- The program's Constants returns what the reference's returns, for all arguments. It has no conditions. -/
import Derived.Test.YtlfmdlhakbdknaaPFnExactConstantsx1
namespace Go.Proofs.Ytlfmdlhakbdknaa.Pure
open Go.RowKit Go.Proofs.Ytlfmdlhakbdknaa.PFnExactConstants Go.Proofs.YtlfmdlhakbdknaaW.PrintWords Go.Proofs.YtlfmdlhakbdknaaW.PrintLast
set_option linter.unusedVariables false
set_option linter.unusedSimpArgs false

theorem FnExactConstants : laws_FnExactConstants.Pure := rfl

end Go.Proofs.Ytlfmdlhakbdknaa.Pure
