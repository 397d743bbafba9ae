/- the program's Min answers as the reference's, for all arguments. -/
import Derived.Test.YthfhejfidmhklaaPFnExactMinx1
import Derived.Test.YthfhejfidmhklaaNum
set_option linter.unusedVariables false
set_option linter.unusedSimpArgs false
namespace Go.Proofs.Ythfhejfidmhklaa.Pure
open Go.RowKit Go.Proofs.Ythfhejfidmhklaa.PFnExactMin Go.Proofs.YthfhejfidmhklaaW.PrintWords Go.Proofs.YthfhejfidmhklaaW.PrintLast Go.Proofs.Ythfhejfidmhklaa.Num
namespace KFnExactMin
theorem proved : laws_FnExactMin.Pure := by
  intro a b _ _
  unfold laws_FnExactMin.f spec_Min.f impl_Min.f mn
  by_cases h : b < a
  · simp only [if_pos h]; simp
  · simp only [if_neg h]; simp
end KFnExactMin
theorem FnExactMin : laws_FnExactMin.Pure := KFnExactMin.proved
end Go.Proofs.Ythfhejfidmhklaa.Pure
