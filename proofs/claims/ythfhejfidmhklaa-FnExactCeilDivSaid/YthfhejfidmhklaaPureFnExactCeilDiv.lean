/- the program's CeilDiv answers as the reference's, for all arguments. -/
import Derived.Test.YthfhejfidmhklaaPFnExactCeilDivx1
import Derived.Test.YthfhejfidmhklaaNum
set_option linter.unusedVariables false
set_option linter.unusedSimpArgs false
namespace Go.Proofs.Ythfhejfidmhklaa.Pure
open Go.RowKit Go.Proofs.Ythfhejfidmhklaa.PFnExactCeilDiv Go.Proofs.YthfhejfidmhklaaW.PrintWords Go.Proofs.YthfhejfidmhklaaW.PrintLast Go.Proofs.Ythfhejfidmhklaa.Num
namespace KFnExactCeilDiv
theorem spec_l1In_eq (a b c : Int) : spec_l1In.f a b c = some (decide (b ≤ a ∧ a ≤ c)) := by
  unfold spec_l1In.f
  by_cases h : b ≤ a
  · rw [if_pos h]; simp [h]
  · rw [if_neg (by omega)]; simp [h]
theorem proved : laws_FnExactCeilDiv.Pure := by
  intro a b _ _
  unfold laws_FnExactCeilDiv.f spec_CeilDiv.f impl_CeilDiv.f
  rw [spec_l1In_eq, spec_l1In_eq]; simp only [Option.bind_some]
  by_cases h0 : 0 ≤ a ∧ a ≤ 1000000000000
  · by_cases h1 : 1 ≤ b ∧ b ≤ 1000000000000
    · rw [if_pos (by simpa using h0), if_pos (by simpa using h1), if_neg (by omega), if_neg (by omega), if_neg (by omega), if_neg (by omega), if_neg (by omega)]; simp
    · rw [if_pos (by simpa using h0), if_neg (by simpa using h1), if_neg (by omega), if_neg (by omega)]; simp only [Option.bind_some]
      by_cases h2 : b < 1
      · rw [if_pos h2]; simp
      · rw [if_neg h2, if_pos (by omega)]; simp
  · rw [if_neg (by simpa using h0)]; simp only [Option.bind_some]
    by_cases h2 : a < 0
    · rw [if_pos h2]; simp
    · rw [if_neg h2, if_pos (by omega)]; simp
end KFnExactCeilDiv
theorem FnExactCeilDiv : laws_FnExactCeilDiv.Pure := KFnExactCeilDiv.proved
end Go.Proofs.Ythfhejfidmhklaa.Pure
