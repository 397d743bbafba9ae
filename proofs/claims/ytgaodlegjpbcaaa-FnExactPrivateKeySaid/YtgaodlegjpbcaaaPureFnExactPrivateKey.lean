/- the program's PrivateKey answers as the reference's, for all arguments. -/
import Derived.Test.YtgaodlegjpbcaaaPFnExactPrivateKeyx1
import Derived.Test.YtgaodlegjpbcaaaNum3
set_option linter.unusedVariables false
set_option linter.unusedSimpArgs false
namespace Go.Proofs.Ytgaodlegjpbcaaa.Pure
open Go.RowKit Go.Proofs.Ytgaodlegjpbcaaa.PFnExactPrivateKey Go.Proofs.YtgaodlegjpbcaaaW.PrintWords Go.Proofs.YtgaodlegjpbcaaaW.PrintLast Go.Proofs.Ytgaodlegjpbcaaa.Num
namespace KFnExactPrivateKey
theorem spec_l1In_eq (a b c : Int) : spec_l1In.f a b c = some (decide (b ≤ a ∧ a ≤ c)) := by
  unfold spec_l1In.f
  by_cases h : b ≤ a
  · rw [if_pos h]; simp [h]
  · rw [if_neg (by omega)]; simp [h]
theorem spec_IsValidKey_eq (a : Int) : spec_IsValidKey.f a = some (decide (1 ≤ a ∧ a ≤ 2147483646)) := by
  unfold spec_IsValidKey.f
  rw [spec_l1In_eq]; rfl
theorem spec_PublicKey_eq (a : Int) : spec_PublicKey.f a = some (PK a) := by
  unfold spec_PublicKey.f PK
  rw [spec_IsValidKey_eq]; simp only [Option.bind_some]
  by_cases h : 1 ≤ a ∧ a ≤ 2147483646
  · rw [if_pos (by simpa using h), if_pos h, w64 (by omega) (by omega), Int.tmod_eq_emod_of_nonneg (by omega)]
  · rw [if_neg (by simpa using h), if_neg h]
theorem spec_l6Power_l0 : ∀ (j k x n o : Nat), n < 2 ^ j → j ≤ 62 → j < k → x < 2147483647 → o < 2147483647 → spec_l6Power.l0 k (x : Int) (n : Int) (o : Int) = some ((fp 2147483647 j x n o : Nat) : Int) := by
  intro j
  induction j with
  | zero =>
    intro k x n o hn _ hk hx ho
    obtain ⟨k, rfl⟩ : ∃ m, k = m + 1 := ⟨k - 1, by omega⟩
    obtain rfl : n = 0 := by simpa using hn
    simp only [spec_l6Power.l0]
    rw [if_neg (by omega)]; rfl
  | succ j ih =>
    intro k x n o hn hj hk hx ho
    obtain ⟨k, rfl⟩ : ∃ m, k = m + 1 := ⟨k - 1, by omega⟩
    simp only [spec_l6Power.l0, fp]
    by_cases h0 : n = 0
    · subst h0
      rw [if_neg (by omega), if_pos rfl]
    · have hp : 2 ^ (j + 1) ≤ 2 ^ 62 := Nat.pow_le_pow_right (by omega) hj
      have hb : Go.bits .and .i64 (n : Int) 1 = (n : Int) % 2 := and1 (by omega) (by omega)
      have hd : (n : Int) / 2 = ((n / 2 : Nat) : Int) := by omega
      have hx2 : x * x % 2147483647 < 2147483647 := Nat.mod_lt _ (by omega)
      have hn2 : n / 2 < 2 ^ j := by rw [Nat.pow_succ] at hn; omega
      have ex : Int.tmod (wrap64 ((x : Int) * (x : Int))) 2147483647 = ((x * x % 2147483647 : Nat) : Int) := tmodmul (m := 2147483647) hx hx (by omega)
      rw [if_pos (by omega), hb, hd, ex, if_neg h0]
      by_cases h1 : n % 2 = 1
      · have eo : Int.tmod (wrap64 ((o : Int) * (x : Int))) 2147483647 = ((o * x % 2147483647 : Nat) : Int) := tmodmul (m := 2147483647) ho hx (by omega)
        rw [if_pos (by omega), if_pos h1, eo, ih k _ _ _ hn2 (by omega) (by omega) hx2 (Nat.mod_lt _ (by omega))]
      · rw [if_neg (by omega), if_neg h1, ih k _ _ _ hn2 (by omega) (by omega) hx2 ho]
theorem spec_l6Power_key {k : Nat} (hk : 64 ≤ k) : spec_l6Power.f k 48271 2147483645 = some 1899818559 := by
  unfold spec_l6Power.f
  have h := spec_l6Power_l0 62 k 48271 2147483645 1 (by decide) (by omega) (by omega) (by omega) (by omega)
  rw [fp_key] at h
  exact h
theorem spec_PrivateKey_eq {k : Nat} (hk : 64 ≤ k) (a : Int) : spec_PrivateKey.f k a = some (VK a) := by
  unfold spec_PrivateKey.f VK
  rw [spec_l1In_eq]; simp only [Option.bind_some]
  by_cases h : 1 ≤ a ∧ a ≤ 2147483646
  · rw [if_pos (by simpa using h), if_pos h, spec_l6Power_key hk]; simp only [Option.bind_some]
    rw [w64 (by omega) (by omega), Int.tmod_eq_emod_of_nonneg (by omega), spec_PublicKey_eq, PK_VK h]; simp only [Option.bind_some]
    rw [if_pos (by simp)]
  · rw [if_neg (by simpa using h), if_neg h]
theorem impl_InRange_eq (a b c : Int) : impl_InRange.f a b c = some (decide (b ≤ a ∧ a ≤ c)) := by
  unfold impl_InRange.f
  by_cases h : b ≤ a
  · rw [if_pos h]; simp [h]
  · rw [if_neg h]; simp [h]
theorem impl_IsValidKey_eq (a : Int) : impl_IsValidKey.f a = some (decide (1 ≤ a ∧ a ≤ 2147483646)) := by
  unfold impl_IsValidKey.f
  rw [impl_InRange_eq]; rfl
theorem impl_power_l0 {m : Nat} (hm0 : 0 < m) (hm : m ≤ 2147483647) : ∀ (j k x n o : Nat), n < 2 ^ j → j ≤ 62 → j < k → x < m → o < m → impl_power.l0 k (x : Int) (n : Int) (m : Int) (o : Int) = some ((o * x ^ n % m : Nat) : Int) := by
  intro j
  induction j with
  | zero =>
    intro k x n o hn _ hk hx ho
    obtain ⟨k, rfl⟩ : ∃ m, k = m + 1 := ⟨k - 1, by omega⟩
    obtain rfl : n = 0 := by simpa using hn
    simp only [impl_power.l0]
    rw [if_neg (by omega), Nat.pow_zero, Nat.mul_one, Nat.mod_eq_of_lt ho]
  | succ j ih =>
    intro k x n o hn hj hk hx ho
    obtain ⟨k, rfl⟩ : ∃ m, k = m + 1 := ⟨k - 1, by omega⟩
    simp only [impl_power.l0]
    by_cases h0 : n = 0
    · subst h0
      rw [if_neg (by omega), Nat.pow_zero, Nat.mul_one, Nat.mod_eq_of_lt ho]
    · have hp : 2 ^ (j + 1) ≤ 2 ^ 62 := Nat.pow_le_pow_right (by omega) hj
      have hb : Int.tmod (n : Int) 2 = (n : Int) % 2 := Int.tmod_eq_emod_of_nonneg (by omega)
      have hd : wrap64 (Int.tdiv (n : Int) 2) = ((n / 2 : Nat) : Int) := by
        rw [Int.tdiv_eq_ediv_of_nonneg (by omega), w64 (by omega) (by omega)]; omega
      have hx2 : x * x % m < m := Nat.mod_lt _ (by omega)
      have hn2 : n / 2 < 2 ^ j := by rw [Nat.pow_succ] at hn; omega
      have ex : Int.tmod (wrap64 ((x : Int) * (x : Int))) (m : Int) = ((x * x % m : Nat) : Int) := tmodmul hx hx hm
      rw [if_pos (by omega), hb, hd, ex]
      by_cases h1 : n % 2 = 1
      · have eo : Int.tmod (wrap64 ((o : Int) * (x : Int))) (m : Int) = ((o * x % m : Nat) : Int) := tmodmul ho hx hm
        rw [if_pos (by omega), if_neg (by omega), eo, ih k _ _ _ hn2 (by omega) (by omega) hx2 (Nat.mod_lt _ (by omega)), pow_odd h1]
      · rw [if_neg (by omega), if_neg (by omega), ih k _ _ _ hn2 (by omega) (by omega) hx2 ho, pow_even (by omega)]
theorem impl_power_eq {k : Nat} (hk : 64 ≤ k) {x n m : Int} (X N M : Nat) (hx : x = X) (hn : n = N) (hm : m = M) (hM0 : 1 < M) (hM : M ≤ 2147483647) (hN : N < 4611686018427387904) : impl_power.f k x n m = some ((X ^ N % M : Nat) : Int) := by
  subst hx hn hm
  unfold impl_power.f
  have e : Int.tmod (X : Int) (M : Int) = ((X % M : Nat) : Int) := by
    rw [Int.tmod_eq_emod_of_nonneg (by omega)]; exact (Int.natCast_emod _ _).symm
  have e1 : (1 : Int) % (M : Int) = ((1 : Nat) : Int) := Int.emod_eq_of_lt (by omega) (by omega)
  have h := impl_power_l0 (by omega) hM 62 k (X % M) N 1 (by omega) (by omega) (by omega) (Nat.mod_lt _ (by omega)) (by omega)
  rw [Nat.one_mul, ← Nat.pow_mod] at h
  rw [if_neg (by omega), e, e1]
  exact h
theorem impl_power_fp : ∀ (j k x n o : Nat), n < 2 ^ j → j ≤ 62 → j < k → x < 2147483647 → o < 2147483647 → impl_power.l0 k (x : Int) (n : Int) 2147483647 (o : Int) = some ((fp 2147483647 j x n o : Nat) : Int) := by
  intro j
  induction j with
  | zero =>
    intro k x n o hn _ hk hx ho
    obtain ⟨k, rfl⟩ : ∃ m, k = m + 1 := ⟨k - 1, by omega⟩
    obtain rfl : n = 0 := by simpa using hn
    simp only [impl_power.l0]
    rw [if_neg (by omega)]; rfl
  | succ j ih =>
    intro k x n o hn hj hk hx ho
    obtain ⟨k, rfl⟩ : ∃ m, k = m + 1 := ⟨k - 1, by omega⟩
    simp only [impl_power.l0, fp]
    by_cases h0 : n = 0
    · subst h0
      rw [if_neg (by omega), if_pos rfl]
    · have hp : 2 ^ (j + 1) ≤ 2 ^ 62 := Nat.pow_le_pow_right (by omega) hj
      have hb : Int.tmod (n : Int) 2 = (n : Int) % 2 := Int.tmod_eq_emod_of_nonneg (by omega)
      have hd : wrap64 (Int.tdiv (n : Int) 2) = ((n / 2 : Nat) : Int) := by
        rw [Int.tdiv_eq_ediv_of_nonneg (by omega), w64 (by omega) (by omega)]; omega
      have hx2 : x * x % 2147483647 < 2147483647 := Nat.mod_lt _ (by omega)
      have hn2 : n / 2 < 2 ^ j := by rw [Nat.pow_succ] at hn; omega
      have ex : Int.tmod (wrap64 ((x : Int) * (x : Int))) 2147483647 = ((x * x % 2147483647 : Nat) : Int) := tmodmul (m := 2147483647) hx hx (by omega)
      rw [if_pos (by omega), hb, hd, ex, if_neg h0]
      by_cases h1 : n % 2 = 1
      · have eo : Int.tmod (wrap64 ((o : Int) * (x : Int))) 2147483647 = ((o * x % 2147483647 : Nat) : Int) := tmodmul (m := 2147483647) ho hx (by omega)
        rw [if_pos (by omega), if_neg (by omega), if_pos h1, eo, ih k _ _ _ hn2 (by omega) (by omega) hx2 (Nat.mod_lt _ (by omega))]
      · rw [if_neg (by omega), if_neg (by omega), if_neg h1, ih k _ _ _ hn2 (by omega) (by omega) hx2 ho]
theorem impl_power_key {k : Nat} (hk : 64 ≤ k) : impl_power.f k 48271 2147483645 2147483647 = some 1899818559 := by
  unfold impl_power.f
  have h := impl_power_fp 62 k 48271 2147483645 1 (by decide) (by omega) (by omega) (by omega) (by omega)
  rw [fp_key] at h
  rw [if_neg (by omega)]
  exact h
theorem impl_PrivateKey_eq {k : Nat} (hk : 64 ≤ k) (a : Int) : impl_PrivateKey.f k a = some (VK a) := by
  unfold impl_PrivateKey.f VK
  rw [impl_IsValidKey_eq]; simp only [Option.bind_some]
  by_cases h : 1 ≤ a ∧ a ≤ 2147483646
  · rw [if_pos (by simpa using h), if_pos h, impl_power_key hk]; simp only [Option.bind_some]
    rw [w64 (by omega) (by omega), Int.tmod_eq_emod_of_nonneg (by omega)]
  · rw [if_neg (by simpa using h), if_neg h]
theorem proved : laws_FnExactPrivateKey.Pure := by
  intro a _
  obtain ⟨K, hK⟩ : ∃ K : Nat, 3000000 ≤ K := ⟨_, Nat.le_refl _⟩
  refine ⟨K, ?_⟩
  unfold laws_FnExactPrivateKey.f
  rw [spec_PrivateKey_eq (by omega), impl_PrivateKey_eq (by omega)]; simp
end KFnExactPrivateKey
theorem FnExactPrivateKey : laws_FnExactPrivateKey.Pure := KFnExactPrivateKey.proved
end Go.Proofs.Ytgaodlegjpbcaaa.Pure
