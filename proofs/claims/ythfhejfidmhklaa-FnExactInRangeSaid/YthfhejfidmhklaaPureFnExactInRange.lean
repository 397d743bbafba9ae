/- the program's InRange answers as the reference's, for all arguments. -/
import Derived.Test.YthfhejfidmhklaaPFnExactInRangex1
import Derived.Test.YthfhejfidmhklaaNum
set_option linter.unusedVariables false
set_option linter.unusedSimpArgs false
namespace Go.Proofs.Ythfhejfidmhklaa.Pure
open Go.RowKit Go.Proofs.Ythfhejfidmhklaa.PFnExactInRange Go.Proofs.YthfhejfidmhklaaW.PrintWords Go.Proofs.YthfhejfidmhklaaW.PrintLast Go.Proofs.Ythfhejfidmhklaa.Num
namespace KFnExactInRange
theorem spec_InRange_eq (a b c : Int) : spec_InRange.f a b c = some (decide (b ≤ a ∧ a ≤ c)) := by
  unfold spec_InRange.f
  by_cases h : b ≤ a
  · rw [if_pos h]; simp [h]
  · rw [if_neg (by omega)]; simp [h]
theorem impl_InRange_eq (a b c : Int) : impl_InRange.f a b c = some (decide (b ≤ a ∧ a ≤ c)) := by
  unfold impl_InRange.f
  by_cases h : b ≤ a
  · rw [if_pos h]; simp [h]
  · rw [if_neg h]; simp [h]
theorem proved : laws_FnExactInRange.Pure := by
  intro a b c _ _ _
  unfold laws_FnExactInRange.f
  rw [spec_InRange_eq, impl_InRange_eq]; simp
end KFnExactInRange
theorem FnExactInRange : laws_FnExactInRange.Pure := KFnExactInRange.proved
end Go.Proofs.Ythfhejfidmhklaa.Pure
