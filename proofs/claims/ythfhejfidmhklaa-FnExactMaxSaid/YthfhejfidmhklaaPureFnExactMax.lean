/- the program's Max answers as the reference's, for all arguments. -/
import Derived.Test.YthfhejfidmhklaaPFnExactMaxx1
import Derived.Test.YthfhejfidmhklaaNum
set_option linter.unusedVariables false
set_option linter.unusedSimpArgs false
namespace Go.Proofs.Ythfhejfidmhklaa.Pure
open Go.RowKit Go.Proofs.Ythfhejfidmhklaa.PFnExactMax Go.Proofs.YthfhejfidmhklaaW.PrintWords Go.Proofs.YthfhejfidmhklaaW.PrintLast Go.Proofs.Ythfhejfidmhklaa.Num
namespace KFnExactMax
theorem proved : laws_FnExactMax.Pure := by
  intro a b _ _
  unfold laws_FnExactMax.f spec_Max.f impl_Max.f mx
  by_cases h : b > a
  · rw [if_pos h, if_pos (by omega)]; simp
  · rw [if_neg h, if_neg (by omega)]; simp
end KFnExactMax
theorem FnExactMax : laws_FnExactMax.Pure := KFnExactMax.proved
end Go.Proofs.Ythfhejfidmhklaa.Pure
