/- the program's DiscreteLog answers as the reference's, for all arguments. -/
import Derived.Test.YtgeokjhijihpaaaPFnExactDiscreteLogx1
import Derived.Test.YtgeokjhijihpaaaNum
set_option linter.unusedVariables false
set_option linter.unusedSimpArgs false
namespace Go.Proofs.Ytgeokjhijihpaaa.Pure
open Go.RowKit Go.Proofs.Ytgeokjhijihpaaa.PFnExactDiscreteLog Go.Proofs.YtgeokjhijihpaaaW.PrintWords Go.Proofs.YtgeokjhijihpaaaW.PrintLast Go.Proofs.Ytgeokjhijihpaaa.Num
namespace KFnExactDiscreteLog
theorem spec_l1In_eq (a b c : Int) : spec_l1In.f a b c = some (decide (b ≤ a ∧ a ≤ c)) := by
  unfold spec_l1In.f
  by_cases h : b ≤ a
  · rw [if_pos h]; simp [h]
  · rw [if_neg (by omega)]; simp [h]
theorem spec_l4Pow_l0 : ∀ (j k x n o : Nat), n < 2 ^ j → j ≤ 62 → j < k → x < 2039 → o < 2039 → spec_l4Pow.l0 k (x : Int) (n : Int) (o : Int) = some ((o * x ^ n % 2039 : Nat) : Int) := by
  intro j
  induction j with
  | zero =>
    intro k x n o hn _ hk hx ho
    obtain ⟨k, rfl⟩ : ∃ m, k = m + 1 := ⟨k - 1, by omega⟩
    obtain rfl : n = 0 := by simpa using hn
    simp only [spec_l4Pow.l0]
    rw [if_neg (by omega), Nat.pow_zero, Nat.mul_one, Nat.mod_eq_of_lt ho]
  | succ j ih =>
    intro k x n o hn hj hk hx ho
    obtain ⟨k, rfl⟩ : ∃ m, k = m + 1 := ⟨k - 1, by omega⟩
    simp only [spec_l4Pow.l0]
    by_cases h0 : n = 0
    · subst h0
      rw [if_neg (by omega), Nat.pow_zero, Nat.mul_one, Nat.mod_eq_of_lt ho]
    · have hp : 2 ^ (j + 1) ≤ 2 ^ 62 := Nat.pow_le_pow_right (by omega) hj
      have hb : Go.bits .and .i64 (n : Int) 1 = (n : Int) % 2 := and1 (by omega) (by omega)
      have hd : (n : Int) / 2 = ((n / 2 : Nat) : Int) := by omega
      have hx2 : x * x % 2039 < 2039 := Nat.mod_lt _ (by omega)
      have hn2 : n / 2 < 2 ^ j := by rw [Nat.pow_succ] at hn; omega
      have ex : Int.tmod (wrap64 ((x : Int) * (x : Int))) 2039 = ((x * x % 2039 : Nat) : Int) := tmodmul (m := 2039) hx hx (by omega)
      rw [if_pos (by omega), hb, hd, ex]
      by_cases h1 : n % 2 = 1
      · have eo : Int.tmod (wrap64 ((o : Int) * (x : Int))) 2039 = ((o * x % 2039 : Nat) : Int) := tmodmul (m := 2039) ho hx (by omega)
        rw [if_pos (by omega), eo, ih k _ _ _ hn2 (by omega) (by omega) hx2 (Nat.mod_lt _ (by omega)), pow_odd h1]
      · rw [if_neg (by omega), ih k _ _ _ hn2 (by omega) (by omega) hx2 ho, pow_even (by omega)]
theorem spec_l4Pow_eq {k : Nat} (hk : 64 ≤ k) {x n : Int} (X N : Nat) (hx : x = X) (hn : n = N) (hX : X < 2039) (hN : N < 4611686018427387904) : spec_l4Pow.f k x n = some ((X ^ N % 2039 : Nat) : Int) := by
  subst hx hn
  unfold spec_l4Pow.f
  have h := spec_l4Pow_l0 62 k X N 1 (by omega) (by omega) (by omega) hX (by omega)
  rw [Nat.one_mul] at h
  exact h
theorem spec_IsGroupElement_eq {k : Nat} (hk : 64 ≤ k) (x : Int) : spec_IsGroupElement.f k x = some (G x) := by
  unfold spec_IsGroupElement.f
  rw [spec_l1In_eq]; simp only [Option.bind_some]
  by_cases h : 1 ≤ x ∧ x ≤ 2038
  · rw [if_pos (by simpa using h), spec_l4Pow_eq hk (n := 1019) x.toNat ord (by omega) rfl (by omega) (by decide)]
    simp only [Option.bind_some]
    congr 1
    unfold G gel
    rw [Bool.eq_iff_iff]
    generalize x.toNat ^ ord % 2039 = z
    simp only [Bool.and_eq_true, decide_eq_true_eq, beq_iff_eq]
    omega
  · rw [if_neg (by simpa using h), G_out h]
theorem spec_DiscreteLog_run (g x : Nat) (hg : g < 2039) : ∀ (d k y e : Nat), 1019 - e = d → d < k → y < 2039 → ∃ r, spec_DiscreteLog.l0 k (g : Int) (x : Int) (y : Int) (e : Int) = some r := by
  intro d
  induction d with
  | zero =>
    intro k y e hd hk hy
    obtain ⟨k, rfl⟩ : ∃ j, k = j + 1 := ⟨k - 1, by omega⟩
    simp only [spec_DiscreteLog.l0]
    rw [if_neg (by omega)]; exact ⟨_, rfl⟩
  | succ d ih =>
    intro k y e hd hk hy
    obtain ⟨k, rfl⟩ : ∃ j, k = j + 1 := ⟨k - 1, by omega⟩
    simp only [spec_DiscreteLog.l0]
    rw [if_pos (by omega)]
    by_cases h : (y : Int) = (x : Int)
    · rw [if_pos h]; exact ⟨_, rfl⟩
    · rw [if_neg h, nxt (by omega)]
      have e1 : Int.tmod (wrap64 ((y : Int) * (g : Int))) 2039 = ((y * g % 2039 : Nat) : Int) := tmodmul (m := 2039) hy hg (by omega)
      rw [e1]
      exact ih k _ (e + 1) (by omega) (by omega) (Nat.mod_lt _ (by omega))
theorem impl_InRange_eq (a b c : Int) : impl_InRange.f a b c = some (decide (b ≤ a ∧ a ≤ c)) := by
  unfold impl_InRange.f
  by_cases h : b ≤ a
  · rw [if_pos h]; simp [h]
  · rw [if_neg h]; simp [h]
theorem impl_power_l0 {m : Nat} (hm0 : 0 < m) (hm : m ≤ 2147483647) : ∀ (j k x n o : Nat), n < 2 ^ j → j ≤ 62 → j < k → x < m → o < m → impl_power.l0 k (x : Int) (n : Int) (m : Int) (o : Int) = some ((o * x ^ n % m : Nat) : Int) := by
  intro j
  induction j with
  | zero =>
    intro k x n o hn _ hk hx ho
    obtain ⟨k, rfl⟩ : ∃ m, k = m + 1 := ⟨k - 1, by omega⟩
    obtain rfl : n = 0 := by simpa using hn
    simp only [impl_power.l0]
    rw [if_neg (by omega), Nat.pow_zero, Nat.mul_one, Nat.mod_eq_of_lt ho]
  | succ j ih =>
    intro k x n o hn hj hk hx ho
    obtain ⟨k, rfl⟩ : ∃ m, k = m + 1 := ⟨k - 1, by omega⟩
    simp only [impl_power.l0]
    by_cases h0 : n = 0
    · subst h0
      rw [if_neg (by omega), Nat.pow_zero, Nat.mul_one, Nat.mod_eq_of_lt ho]
    · have hp : 2 ^ (j + 1) ≤ 2 ^ 62 := Nat.pow_le_pow_right (by omega) hj
      have hb : Int.tmod (n : Int) 2 = (n : Int) % 2 := Int.tmod_eq_emod_of_nonneg (by omega)
      have hd : wrap64 (Int.tdiv (n : Int) 2) = ((n / 2 : Nat) : Int) := by
        rw [Int.tdiv_eq_ediv_of_nonneg (by omega), w64 (by omega) (by omega)]; omega
      have hx2 : x * x % m < m := Nat.mod_lt _ (by omega)
      have hn2 : n / 2 < 2 ^ j := by rw [Nat.pow_succ] at hn; omega
      have ex : Int.tmod (wrap64 ((x : Int) * (x : Int))) (m : Int) = ((x * x % m : Nat) : Int) := tmodmul hx hx hm
      rw [if_pos (by omega), hb, hd, ex]
      by_cases h1 : n % 2 = 1
      · have eo : Int.tmod (wrap64 ((o : Int) * (x : Int))) (m : Int) = ((o * x % m : Nat) : Int) := tmodmul ho hx hm
        rw [if_pos (by omega), if_neg (by omega), eo, ih k _ _ _ hn2 (by omega) (by omega) hx2 (Nat.mod_lt _ (by omega)), pow_odd h1]
      · rw [if_neg (by omega), if_neg (by omega), ih k _ _ _ hn2 (by omega) (by omega) hx2 ho, pow_even (by omega)]
theorem impl_power_eq {k : Nat} (hk : 64 ≤ k) {x n m : Int} (X N M : Nat) (hx : x = X) (hn : n = N) (hm : m = M) (hM0 : 1 < M) (hM : M ≤ 2147483647) (hN : N < 4611686018427387904) : impl_power.f k x n m = some ((X ^ N % M : Nat) : Int) := by
  subst hx hn hm
  unfold impl_power.f
  have e : Int.tmod (X : Int) (M : Int) = ((X % M : Nat) : Int) := by
    rw [Int.tmod_eq_emod_of_nonneg (by omega)]; exact (Int.natCast_emod _ _).symm
  have e1 : (1 : Int) % (M : Int) = ((1 : Nat) : Int) := Int.emod_eq_of_lt (by omega) (by omega)
  have h := impl_power_l0 (by omega) hM 62 k (X % M) N 1 (by omega) (by omega) (by omega) (Nat.mod_lt _ (by omega)) (by omega)
  rw [Nat.one_mul, ← Nat.pow_mod] at h
  rw [if_neg (by omega), e, e1]
  exact h
theorem impl_IsGroupElement_eq {k : Nat} (hk : 64 ≤ k) (x : Int) : impl_IsGroupElement.f k x = some (G x) := by
  unfold impl_IsGroupElement.f
  rw [impl_InRange_eq]; simp only [Option.bind_some]
  by_cases h : 1 ≤ x ∧ x ≤ 2038
  · rw [if_pos (by simpa using h), impl_power_eq hk (n := 1019) (m := 2039) x.toNat ord 2039 (by omega) rfl rfl (by omega) (by omega) (by decide)]
    simp only [Option.bind_some]
    congr 1
    unfold G gel
    rw [Bool.eq_iff_iff]
    generalize x.toNat ^ ord % 2039 = z
    simp only [Bool.and_eq_true, decide_eq_true_eq, beq_iff_eq]
    omega
  · rw [if_neg (by simpa using h), G_out h]
theorem impl_DiscreteLog_run (g x : Nat) (hg : g < 2039) : ∀ (d k y e : Nat), 1019 - e = d → d < k → y < 2039 → ∃ r, impl_DiscreteLog.l0 k (g : Int) (x : Int) (y : Int) (e : Int) = some r := by
  intro d
  induction d with
  | zero =>
    intro k y e hd hk hy
    obtain ⟨k, rfl⟩ : ∃ j, k = j + 1 := ⟨k - 1, by omega⟩
    simp only [impl_DiscreteLog.l0]
    rw [if_neg (by omega)]; exact ⟨_, rfl⟩
  | succ d ih =>
    intro k y e hd hk hy
    obtain ⟨k, rfl⟩ : ∃ j, k = j + 1 := ⟨k - 1, by omega⟩
    simp only [impl_DiscreteLog.l0]
    rw [if_pos (by omega)]
    by_cases h : (y : Int) = (x : Int)
    · rw [if_pos h]; exact ⟨_, rfl⟩
    · rw [if_neg h, nxt (by omega)]
      have e1 : Int.tmod (wrap64 ((y : Int) * (g : Int))) 2039 = ((y * g % 2039 : Nat) : Int) := tmodmul (m := 2039) hy hg (by omega)
      rw [e1]
      exact ih k _ (e + 1) (by omega) (by omega) (Nat.mod_lt _ (by omega))

theorem impl_DiscreteLog_find {g n : Nat} (hG : gel g = true) (h1 : g ≠ 1) (hn : n < 1019) : ∀ (d k e : Nat), n - e = d → e ≤ n → d < k → impl_DiscreteLog.l0 k (g : Int) ((g ^ n % 2039 : Nat) : Int) ((g ^ e % 2039 : Nat) : Int) (e : Int) = some (n : Int) := by
  intro d
  induction d with
  | zero =>
    intro k e hd he hk
    obtain ⟨k, rfl⟩ : ∃ j, k = j + 1 := ⟨k - 1, by omega⟩
    obtain rfl : e = n := by omega
    simp only [impl_DiscreteLog.l0]
    rw [if_pos (by omega), if_pos (by simp)]
  | succ d ih =>
    intro k e hd he hk
    obtain ⟨k, rfl⟩ : ∃ j, k = j + 1 := ⟨k - 1, by omega⟩
    simp only [impl_DiscreteLog.l0]
    have hne : ¬ (((g ^ e % 2039 : Nat) : Int) = ((g ^ n % 2039 : Nat) : Int)) := fun h => by
      have := gel_inj hG h1 (by omega) hn (Int.ofNat.inj h)
      omega
    have e1 : Int.tmod (wrap64 (((g ^ e % 2039 : Nat) : Int) * (g : Int))) 2039 = ((g ^ (e + 1) % 2039 : Nat) : Int) := by
      have h2 := tmodmul (m := 2039) (x := g ^ e % 2039) (y := g) (Nat.mod_lt _ (by omega)) (gel_lt hG) (by omega)
      have h3 : g ^ e % 2039 * g % 2039 = g ^ (e + 1) % 2039 := by
        rw [Nat.mul_mod, Nat.mod_mod, ← Nat.mul_mod, Nat.pow_succ]
      rw [h3] at h2
      exact h2
    rw [if_pos (by omega), if_neg hne, nxt (by omega), e1]
    exact ih k (e + 1) (by omega) (by omega) (by omega)
theorem impl_DiscreteLog_out {k : Nat} (hk : 64 ≤ k) {g x : Int} (h : G g = false) : impl_DiscreteLog.f k g x = some (-1) := by
  unfold impl_DiscreteLog.f
  rw [impl_IsGroupElement_eq hk]; simp only [Option.bind_some]
  obtain ⟨k, rfl⟩ : ∃ j, k = j + 1 := ⟨k - 1, by omega⟩
  rw [h, if_neg (by decide)]
  simp only [impl_DiscreteLog.j0]
  rw [if_pos (by simp)]
theorem impl_DiscreteLog_PG {k : Nat} (hk : 1200 ≤ k) {g : Int} (h : G g = true) (h1 : g ≠ 1) (n : Int) : impl_DiscreteLog.f k g (PG g n) = some (n % 1019) := by
  unfold impl_DiscreteLog.f
  rw [impl_IsGroupElement_eq (by omega), impl_IsGroupElement_eq (by omega), G_PG h]; simp only [Option.bind_some]
  rw [if_pos h, if_pos (by simp)]
  obtain ⟨k, rfl⟩ : ∃ j, k = j + 1 := ⟨k - 1, by omega⟩
  simp only [impl_DiscreteLog.j0]
  have hb := G_elim h
  rw [if_neg (by simpa using h1)]
  have e : g = ((g.toNat : Nat) : Int) := by omega
  have hf := impl_DiscreteLog_find (g := g.toNat) (n := (n % 1019).toNat) h (by omega) (by omega) (n % 1019).toNat k 0 (by omega) (by omega) (by omega)
  rw [PG_of h]
  have e2 : n % 1019 = (((n % 1019).toNat : Nat) : Int) := by omega
  rw [← e2, ← e] at hf
  exact hf
theorem both (g x : Nat) (hg : g < 2039) : ∀ (d k y e : Nat), 1019 - e = d → d < k → y < 2039 → ∃ r, spec_DiscreteLog.l0 k (g : Int) (x : Int) (y : Int) (e : Int) = some r ∧ impl_DiscreteLog.l0 k (g : Int) (x : Int) (y : Int) (e : Int) = some r := by
  intro d
  induction d with
  | zero =>
    intro k y e hd hk hy
    obtain ⟨k, rfl⟩ : ∃ j, k = j + 1 := ⟨k - 1, by omega⟩
    simp only [spec_DiscreteLog.l0, impl_DiscreteLog.l0]
    rw [if_neg (by omega), if_neg (by omega)]; exact ⟨_, rfl, rfl⟩
  | succ d ih =>
    intro k y e hd hk hy
    obtain ⟨k, rfl⟩ : ∃ j, k = j + 1 := ⟨k - 1, by omega⟩
    simp only [spec_DiscreteLog.l0, impl_DiscreteLog.l0]
    simp only [if_pos (show (e : Int) < 1019 by omega)]
    by_cases h : (y : Int) = (x : Int)
    · simp only [if_pos h]; exact ⟨_, rfl, rfl⟩
    · simp only [if_neg h]
      rw [nxt (by omega)]
      have e1 : Int.tmod (wrap64 ((y : Int) * (g : Int))) 2039 = ((y * g % 2039 : Nat) : Int) := tmodmul (m := 2039) hy hg (by omega)
      rw [e1]
      exact ih k _ (e + 1) (by omega) (by omega) (Nat.mod_lt _ (by omega))
theorem proved : laws_FnExactDiscreteLog.Pure := by
  intro g x _ _
  obtain ⟨K, hK⟩ : ∃ K : Nat, 3000000 ≤ K := ⟨_, Nat.le_refl _⟩
  refine ⟨K, ?_⟩
  unfold laws_FnExactDiscreteLog.f spec_DiscreteLog.f impl_DiscreteLog.f
  simp only [spec_IsGroupElement_eq (show 64 ≤ K by omega), impl_IsGroupElement_eq (show 64 ≤ K by omega), Option.bind_some]
  obtain ⟨k, rfl⟩ : ∃ j, K = j + 1 := ⟨K - 1, by omega⟩
  simp only [spec_DiscreteLog.j0, impl_DiscreteLog.j0]
  by_cases hg : G g = true
  · by_cases hx : G x = true
    · rw [if_pos hg, if_pos hx, if_pos hg, if_pos hx]
      by_cases h1 : g = 1
      · subst h1; simp
      · have e1 : (g == 1) = false := by simpa using h1
        rw [e1, if_neg (by decide), if_neg (by decide)]
        have b1 := G_elim hg
        have b2 := G_elim hx
        obtain ⟨a, rfl⟩ := Int.eq_ofNat_of_zero_le (show 0 ≤ g by omega)
        obtain ⟨b, rfl⟩ := Int.eq_ofNat_of_zero_le (show 0 ≤ x by omega)
        obtain ⟨r, h2, h3⟩ := both a b (by omega) 1019 k 1 0 (by omega) (by omega) (by omega)
        have h2 : spec_DiscreteLog.l0 k (a : Int) (b : Int) 1 0 = some r := h2
        have h3 : impl_DiscreteLog.l0 k (a : Int) (b : Int) 1 0 = some r := h3
        rw [h2, h3]; simp
    · rw [if_pos hg, if_neg hx, if_pos hg, if_neg hx]; simp
  · rw [if_neg hg, if_neg hg]; simp
end KFnExactDiscreteLog
theorem FnExactDiscreteLog : laws_FnExactDiscreteLog.Pure := KFnExactDiscreteLog.proved
end Go.Proofs.Ytgeokjhijihpaaa.Pure
