/- the program's PublicKey answers as the reference's, for all arguments. -/
import Derived.Test.YtgaodlegjpbcaaaPFnExactPublicKeyx1
import Derived.Test.YtgaodlegjpbcaaaNum3
set_option linter.unusedVariables false
set_option linter.unusedSimpArgs false
namespace Go.Proofs.Ytgaodlegjpbcaaa.Pure
open Go.RowKit Go.Proofs.Ytgaodlegjpbcaaa.PFnExactPublicKey Go.Proofs.YtgaodlegjpbcaaaW.PrintWords Go.Proofs.YtgaodlegjpbcaaaW.PrintLast Go.Proofs.Ytgaodlegjpbcaaa.Num
namespace KFnExactPublicKey
theorem spec_l1In_eq (a b c : Int) : spec_l1In.f a b c = some (decide (b ≤ a ∧ a ≤ c)) := by
  unfold spec_l1In.f
  by_cases h : b ≤ a
  · rw [if_pos h]; simp [h]
  · rw [if_neg (by omega)]; simp [h]
theorem spec_IsValidKey_eq (a : Int) : spec_IsValidKey.f a = some (decide (1 ≤ a ∧ a ≤ 2147483646)) := by
  unfold spec_IsValidKey.f
  rw [spec_l1In_eq]; rfl
theorem spec_PublicKey_eq (a : Int) : spec_PublicKey.f a = some (PK a) := by
  unfold spec_PublicKey.f PK
  rw [spec_IsValidKey_eq]; simp only [Option.bind_some]
  by_cases h : 1 ≤ a ∧ a ≤ 2147483646
  · rw [if_pos (by simpa using h), if_pos h, w64 (by omega) (by omega), Int.tmod_eq_emod_of_nonneg (by omega)]
  · rw [if_neg (by simpa using h), if_neg h]
theorem impl_InRange_eq (a b c : Int) : impl_InRange.f a b c = some (decide (b ≤ a ∧ a ≤ c)) := by
  unfold impl_InRange.f
  by_cases h : b ≤ a
  · rw [if_pos h]; simp [h]
  · rw [if_neg h]; simp [h]
theorem impl_IsValidKey_eq (a : Int) : impl_IsValidKey.f a = some (decide (1 ≤ a ∧ a ≤ 2147483646)) := by
  unfold impl_IsValidKey.f
  rw [impl_InRange_eq]; rfl
theorem impl_PublicKey_eq (a : Int) : impl_PublicKey.f a = some (PK a) := by
  unfold impl_PublicKey.f PK
  rw [impl_IsValidKey_eq]; simp only [Option.bind_some]
  by_cases h : 1 ≤ a ∧ a ≤ 2147483646
  · rw [if_pos (by simpa using h), if_pos h, w64 (by omega) (by omega), Int.tmod_eq_emod_of_nonneg (by omega)]
  · rw [if_neg (by simpa using h), if_neg h]
theorem proved : laws_FnExactPublicKey.Pure := by
  intro a _
  unfold laws_FnExactPublicKey.f
  rw [spec_PublicKey_eq, impl_PublicKey_eq]; simp
end KFnExactPublicKey
theorem FnExactPublicKey : laws_FnExactPublicKey.Pure := KFnExactPublicKey.proved
end Go.Proofs.Ytgaodlegjpbcaaa.Pure
