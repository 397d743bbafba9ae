/- the program's IsValidKey answers as the reference's, for all arguments. -/
import Derived.Test.YthfhejfidmhklaaPFnExactIsValidKeyx1
import Derived.Test.YthfhejfidmhklaaNum
set_option linter.unusedVariables false
set_option linter.unusedSimpArgs false
namespace Go.Proofs.Ythfhejfidmhklaa.Pure
open Go.RowKit Go.Proofs.Ythfhejfidmhklaa.PFnExactIsValidKey Go.Proofs.YthfhejfidmhklaaW.PrintWords Go.Proofs.YthfhejfidmhklaaW.PrintLast Go.Proofs.Ythfhejfidmhklaa.Num
namespace KFnExactIsValidKey
theorem spec_l1In_eq (a b c : Int) : spec_l1In.f a b c = some (decide (b ≤ a ∧ a ≤ c)) := by
  unfold spec_l1In.f
  by_cases h : b ≤ a
  · rw [if_pos h]; simp [h]
  · rw [if_neg (by omega)]; simp [h]
theorem spec_IsValidKey_eq (a : Int) : spec_IsValidKey.f a = some (decide (1 ≤ a ∧ a ≤ 2147483646)) := by
  unfold spec_IsValidKey.f
  rw [spec_l1In_eq]; rfl
theorem impl_InRange_eq (a b c : Int) : impl_InRange.f a b c = some (decide (b ≤ a ∧ a ≤ c)) := by
  unfold impl_InRange.f
  by_cases h : b ≤ a
  · rw [if_pos h]; simp [h]
  · rw [if_neg h]; simp [h]
theorem impl_IsValidKey_eq (a : Int) : impl_IsValidKey.f a = some (decide (1 ≤ a ∧ a ≤ 2147483646)) := by
  unfold impl_IsValidKey.f
  rw [impl_InRange_eq]; rfl
theorem proved : laws_FnExactIsValidKey.Pure := by
  intro a _
  unfold laws_FnExactIsValidKey.f
  rw [spec_IsValidKey_eq, impl_IsValidKey_eq]; simp
end KFnExactIsValidKey
theorem FnExactIsValidKey : laws_FnExactIsValidKey.Pure := KFnExactIsValidKey.proved
end Go.Proofs.Ythfhejfidmhklaa.Pure
