/- the program's InverseExponent answers as the reference's, for all arguments. -/
import Derived.Test.YtgeokjhijihpaaaPFnExactInverseExponentx1
import Derived.Test.YtgeokjhijihpaaaNum
set_option linter.unusedVariables false
set_option linter.unusedSimpArgs false
namespace Go.Proofs.Ytgeokjhijihpaaa.Pure
open Go.RowKit Go.Proofs.Ytgeokjhijihpaaa.PFnExactInverseExponent Go.Proofs.YtgeokjhijihpaaaW.PrintWords Go.Proofs.YtgeokjhijihpaaaW.PrintLast Go.Proofs.Ytgeokjhijihpaaa.Num
namespace KFnExactInverseExponent
theorem spec_l1In_eq (a b c : Int) : spec_l1In.f a b c = some (decide (b ≤ a ∧ a ≤ c)) := by
  unfold spec_l1In.f
  by_cases h : b ≤ a
  · rw [if_pos h]; simp [h]
  · rw [if_neg (by omega)]; simp [h]
theorem spec_Mod_eq (a m : Int) (h1 : 1 ≤ m) (h2 : m ≤ 1000000000000) : spec_Mod.f a m = some (a % m) := by
  unfold spec_Mod.f
  rw [spec_l1In_eq]; simp only [Option.bind_some]
  rw [if_pos (by simp; omega), if_neg (by omega), tmod_fix h1 h2]
theorem spec_Mod_out (a m : Int) (h : ¬ (1 ≤ m ∧ m ≤ 1000000000000)) : spec_Mod.f a m = some 0 := by
  unfold spec_Mod.f
  rw [spec_l1In_eq]; simp only [Option.bind_some]
  rw [if_neg (by simpa using h)]
theorem spec_InverseExponent_hit {v x : Nat} (hv : v < 1019) (hx : x < 1019) (h : x * v % 1019 = 1) : ∀ (d k m : Nat), v - m = d → m ≤ v → d < k → spec_InverseExponent.l0 k (x : Int) (m : Int) = some (v : Int) := by
  intro d
  induction d with
  | zero =>
    intro k m hd hm hk
    obtain ⟨k, rfl⟩ : ∃ j, k = j + 1 := ⟨k - 1, by omega⟩
    obtain rfl : m = v := by omega
    simp only [spec_InverseExponent.l0]
    have e : Int.tmod (wrap64 ((x : Int) * (m : Int))) 1019 = ((x * m % 1019 : Nat) : Int) := tmodmul (m := 1019) hx hv (by omega)
    rw [if_pos (by omega), e, h, if_pos (by simp)]
  | succ d ih =>
    intro k m hd hm hk
    obtain ⟨k, rfl⟩ : ∃ j, k = j + 1 := ⟨k - 1, by omega⟩
    simp only [spec_InverseExponent.l0]
    have e : Int.tmod (wrap64 ((x : Int) * (m : Int))) 1019 = ((x * m % 1019 : Nat) : Int) := tmodmul (m := 1019) hx (by omega) (by omega)
    have hne : x * m % 1019 ≠ 1 := fun h1 => by
      have := inv_unique (by omega) hv h1 h
      omega
    rw [if_pos (by omega), e, if_neg (by omega), nxt (by omega)]
    exact ih k (m + 1) (by omega) (by omega) (by omega)
theorem spec_InverseExponent_none : ∀ (d k m : Nat), 1019 - m = d → m ≤ 1019 → d < k → spec_InverseExponent.l0 k 0 (m : Int) = some 0 := by
  intro d
  induction d with
  | zero =>
    intro k m hd hm hk
    obtain ⟨k, rfl⟩ : ∃ j, k = j + 1 := ⟨k - 1, by omega⟩
    simp only [spec_InverseExponent.l0]
    rw [if_neg (by omega)]
  | succ d ih =>
    intro k m hd hm hk
    obtain ⟨k, rfl⟩ : ∃ j, k = j + 1 := ⟨k - 1, by omega⟩
    simp only [spec_InverseExponent.l0]
    rw [if_pos (by omega), Int.zero_mul, w64 (by omega) (by omega), if_neg (by decide), nxt (by omega)]
    exact ih k (m + 1) (by omega) (by omega) (by omega)
theorem spec_InverseExponent_eq {k : Nat} (hk : 1100 ≤ k) (n : Int) : spec_InverseExponent.f k n = some (IV n) := by
  unfold spec_InverseExponent.f
  rw [spec_Mod_eq n 1019 (by omega) (by omega)]; simp only [Option.bind_some]
  by_cases h : n % 1019 = 0
  · rw [h, IV_zero h]
    exact spec_InverseExponent_none 1018 k 1 (by omega) (by omega) (by omega)
  · have h1 := IV_mul h
    have h2 := IV_range n
    have h3 := IV_ne h
    have e : n % 1019 = (((n % 1019).toNat : Nat) : Int) := by omega
    have e2 : IV n = (((IV n).toNat : Nat) : Int) := by omega
    have := spec_InverseExponent_hit (v := (IV n).toNat) (x := (n % 1019).toNat) (by omega) (by omega) h1 ((IV n).toNat - 1) k 1 rfl (by omega) (by omega)
    rw [e, e2]
    exact this
theorem impl_power_l0 {m : Nat} (hm0 : 0 < m) (hm : m ≤ 2147483647) : ∀ (j k x n o : Nat), n < 2 ^ j → j ≤ 62 → j < k → x < m → o < m → impl_power.l0 k (x : Int) (n : Int) (m : Int) (o : Int) = some ((o * x ^ n % m : Nat) : Int) := by
  intro j
  induction j with
  | zero =>
    intro k x n o hn _ hk hx ho
    obtain ⟨k, rfl⟩ : ∃ m, k = m + 1 := ⟨k - 1, by omega⟩
    obtain rfl : n = 0 := by simpa using hn
    simp only [impl_power.l0]
    rw [if_neg (by omega), Nat.pow_zero, Nat.mul_one, Nat.mod_eq_of_lt ho]
  | succ j ih =>
    intro k x n o hn hj hk hx ho
    obtain ⟨k, rfl⟩ : ∃ m, k = m + 1 := ⟨k - 1, by omega⟩
    simp only [impl_power.l0]
    by_cases h0 : n = 0
    · subst h0
      rw [if_neg (by omega), Nat.pow_zero, Nat.mul_one, Nat.mod_eq_of_lt ho]
    · have hp : 2 ^ (j + 1) ≤ 2 ^ 62 := Nat.pow_le_pow_right (by omega) hj
      have hb : Int.tmod (n : Int) 2 = (n : Int) % 2 := Int.tmod_eq_emod_of_nonneg (by omega)
      have hd : wrap64 (Int.tdiv (n : Int) 2) = ((n / 2 : Nat) : Int) := by
        rw [Int.tdiv_eq_ediv_of_nonneg (by omega), w64 (by omega) (by omega)]; omega
      have hx2 : x * x % m < m := Nat.mod_lt _ (by omega)
      have hn2 : n / 2 < 2 ^ j := by rw [Nat.pow_succ] at hn; omega
      have ex : Int.tmod (wrap64 ((x : Int) * (x : Int))) (m : Int) = ((x * x % m : Nat) : Int) := tmodmul hx hx hm
      rw [if_pos (by omega), hb, hd, ex]
      by_cases h1 : n % 2 = 1
      · have eo : Int.tmod (wrap64 ((o : Int) * (x : Int))) (m : Int) = ((o * x % m : Nat) : Int) := tmodmul ho hx hm
        rw [if_pos (by omega), if_neg (by omega), eo, ih k _ _ _ hn2 (by omega) (by omega) hx2 (Nat.mod_lt _ (by omega)), pow_odd h1]
      · rw [if_neg (by omega), if_neg (by omega), ih k _ _ _ hn2 (by omega) (by omega) hx2 ho, pow_even (by omega)]
theorem impl_power_eq {k : Nat} (hk : 64 ≤ k) {x n m : Int} (X N M : Nat) (hx : x = X) (hn : n = N) (hm : m = M) (hM0 : 1 < M) (hM : M ≤ 2147483647) (hN : N < 4611686018427387904) : impl_power.f k x n m = some ((X ^ N % M : Nat) : Int) := by
  subst hx hn hm
  unfold impl_power.f
  have e : Int.tmod (X : Int) (M : Int) = ((X % M : Nat) : Int) := by
    rw [Int.tmod_eq_emod_of_nonneg (by omega)]; exact (Int.natCast_emod _ _).symm
  have e1 : (1 : Int) % (M : Int) = ((1 : Nat) : Int) := Int.emod_eq_of_lt (by omega) (by omega)
  have h := impl_power_l0 (by omega) hM 62 k (X % M) N 1 (by omega) (by omega) (by omega) (Nat.mod_lt _ (by omega)) (by omega)
  rw [Nat.one_mul, ← Nat.pow_mod] at h
  rw [if_neg (by omega), e, e1]
  exact h
theorem impl_Mod_eq {k : Nat} (hk : 0 < k) (a m : Int) (h1 : 1 ≤ m) (h2 : m ≤ 1000000000000) : impl_Mod.f k a m = some (a % m) := by
  obtain ⟨k, rfl⟩ : ∃ j, k = j + 1 := ⟨k - 1, by omega⟩
  unfold impl_Mod.f
  rw [if_neg (by omega)]
  simp only [impl_Mod.j0]
  rw [if_neg (by simp; omega), if_neg (by omega), tmod_two a m h1 h2]
theorem impl_Mod_out {k : Nat} (hk : 0 < k) (a m : Int) (h : ¬ (1 ≤ m ∧ m ≤ 1000000000000)) : impl_Mod.f k a m = some 0 := by
  obtain ⟨k, rfl⟩ : ∃ j, k = j + 1 := ⟨k - 1, by omega⟩
  unfold impl_Mod.f
  by_cases h1 : m < 1
  · rw [if_pos h1]
    simp only [impl_Mod.j0]
    rw [if_pos (by simp)]
  · rw [if_neg h1]
    simp only [impl_Mod.j0]
    rw [if_pos (by simp; omega)]
theorem impl_InverseExponent_eq {k : Nat} (hk : 64 ≤ k) (n : Int) : impl_InverseExponent.f k n = some (IV n) := by
  unfold impl_InverseExponent.f
  rw [impl_Mod_eq (by omega) n 1019 (by omega) (by omega)]; simp only [Option.bind_some]
  by_cases h : n % 1019 = 0
  · rw [if_pos h, IV_zero h]
  · rw [if_neg h, impl_power_eq hk (n := 1017) (m := 1019) (n % 1019).toNat inx 1019 (by omega) rfl rfl (by omega) (by omega) (by decide)]; rfl
theorem proved : laws_FnExactInverseExponent.Pure := by
  intro a _
  obtain ⟨K, hK⟩ : ∃ K : Nat, 3000000 ≤ K := ⟨_, Nat.le_refl _⟩
  refine ⟨K, ?_⟩
  unfold laws_FnExactInverseExponent.f
  rw [spec_InverseExponent_eq (by omega), impl_InverseExponent_eq (by omega)]; simp
end KFnExactInverseExponent
theorem FnExactInverseExponent : laws_FnExactInverseExponent.Pure := KFnExactInverseExponent.proved
end Go.Proofs.Ytgeokjhijihpaaa.Pure
