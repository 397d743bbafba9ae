/- every exported constant of the program has the value that the law names. -/
import Derived.Test.YthfhejfidmhklaaPFnExactConstantsx1
import Derived.Test.YthfhejfidmhklaaNum
set_option linter.unusedVariables false
set_option linter.unusedSimpArgs false
namespace Go.Proofs.Ythfhejfidmhklaa.Pure
open Go.RowKit Go.Proofs.Ythfhejfidmhklaa.PFnExactConstants Go.Proofs.YthfhejfidmhklaaW.PrintWords Go.Proofs.YthfhejfidmhklaaW.PrintLast Go.Proofs.Ythfhejfidmhklaa.Num
namespace KFnExactConstants
theorem proved : laws_FnExactConstants.Pure := by
  rfl
end KFnExactConstants
theorem FnExactConstants : laws_FnExactConstants.Pure := KFnExactConstants.proved
end Go.Proofs.Ythfhejfidmhklaa.Pure
