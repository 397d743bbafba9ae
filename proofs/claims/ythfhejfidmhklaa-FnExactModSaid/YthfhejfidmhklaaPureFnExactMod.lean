/- the program's Mod answers as the reference's, for all arguments. -/
import Derived.Test.YthfhejfidmhklaaPFnExactModx1
import Derived.Test.YthfhejfidmhklaaNum
set_option linter.unusedVariables false
set_option linter.unusedSimpArgs false
namespace Go.Proofs.Ythfhejfidmhklaa.Pure
open Go.RowKit Go.Proofs.Ythfhejfidmhklaa.PFnExactMod Go.Proofs.YthfhejfidmhklaaW.PrintWords Go.Proofs.YthfhejfidmhklaaW.PrintLast Go.Proofs.Ythfhejfidmhklaa.Num
namespace KFnExactMod
theorem spec_l1In_eq (a b c : Int) : spec_l1In.f a b c = some (decide (b ≤ a ∧ a ≤ c)) := by
  unfold spec_l1In.f
  by_cases h : b ≤ a
  · rw [if_pos h]; simp [h]
  · rw [if_neg (by omega)]; simp [h]
theorem spec_Mod_eq (a m : Int) (h1 : 1 ≤ m) (h2 : m ≤ 1000000000000) : spec_Mod.f a m = some (a % m) := by
  unfold spec_Mod.f
  rw [spec_l1In_eq]; simp only [Option.bind_some]
  rw [if_pos (by simp; omega), if_neg (by omega), tmod_fix h1 h2]
theorem spec_Mod_out (a m : Int) (h : ¬ (1 ≤ m ∧ m ≤ 1000000000000)) : spec_Mod.f a m = some 0 := by
  unfold spec_Mod.f
  rw [spec_l1In_eq]; simp only [Option.bind_some]
  rw [if_neg (by simpa using h)]
theorem impl_Mod_eq {k : Nat} (hk : 0 < k) (a m : Int) (h1 : 1 ≤ m) (h2 : m ≤ 1000000000000) : impl_Mod.f k a m = some (a % m) := by
  obtain ⟨k, rfl⟩ : ∃ j, k = j + 1 := ⟨k - 1, by omega⟩
  unfold impl_Mod.f
  rw [if_neg (by omega)]
  simp only [impl_Mod.j0]
  rw [if_neg (by simp; omega), if_neg (by omega), tmod_two a m h1 h2]
theorem impl_Mod_out {k : Nat} (hk : 0 < k) (a m : Int) (h : ¬ (1 ≤ m ∧ m ≤ 1000000000000)) : impl_Mod.f k a m = some 0 := by
  obtain ⟨k, rfl⟩ : ∃ j, k = j + 1 := ⟨k - 1, by omega⟩
  unfold impl_Mod.f
  by_cases h1 : m < 1
  · rw [if_pos h1]
    simp only [impl_Mod.j0]
    rw [if_pos (by simp)]
  · rw [if_neg h1]
    simp only [impl_Mod.j0]
    rw [if_pos (by simp; omega)]
theorem proved : laws_FnExactMod.Pure := by
  intro a b _ _
  obtain ⟨K, hK⟩ : ∃ K : Nat, 3000000 ≤ K := ⟨_, Nat.le_refl _⟩
  refine ⟨K, ?_⟩
  unfold laws_FnExactMod.f
  by_cases h : 1 ≤ b ∧ b ≤ 1000000000000
  · rw [spec_Mod_eq a b h.1 h.2, impl_Mod_eq (by omega) a b h.1 h.2]; simp
  · rw [spec_Mod_out a b h, impl_Mod_out (by omega) a b h]; simp
end KFnExactMod
theorem FnExactMod : laws_FnExactMod.Pure := KFnExactMod.proved
end Go.Proofs.Ythfhejfidmhklaa.Pure
