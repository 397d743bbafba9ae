/- the program's EvaluateShare answers as the reference's, for all arguments. -/
import Derived.Test.YtgeokjhijihpaaaPFnExactEvaluateSharex1
import Derived.Test.YtgeokjhijihpaaaNum
set_option linter.unusedVariables false
set_option linter.unusedSimpArgs false
namespace Go.Proofs.Ytgeokjhijihpaaa.Pure
open Go.RowKit Go.Proofs.Ytgeokjhijihpaaa.PFnExactEvaluateShare Go.Proofs.YtgeokjhijihpaaaW.PrintWords Go.Proofs.YtgeokjhijihpaaaW.PrintLast Go.Proofs.Ytgeokjhijihpaaa.Num
def laws_FnExactEvaluateShare.Pure : Prop := ∀ a b c : Int, ∃ k, laws_FnExactEvaluateShare.f k a b c = some true
namespace KFnExactEvaluateShare
theorem impl_InRange_eq (a b c : Int) : impl_InRange.f a b c = some (decide (b ≤ a ∧ a ≤ c)) := by
  unfold impl_InRange.f
  by_cases h : b ≤ a
  · rw [if_pos h]; simp [h]
  · rw [if_neg h]; simp [h]
theorem impl_power_l0 {m : Nat} (hm0 : 0 < m) (hm : m ≤ 2147483647) : ∀ (j k x n o : Nat), n < 2 ^ j → j ≤ 62 → j < k → x < m → o < m → impl_power.l0 k (x : Int) (n : Int) (m : Int) (o : Int) = some ((o * x ^ n % m : Nat) : Int) := by
  intro j
  induction j with
  | zero =>
    intro k x n o hn _ hk hx ho
    obtain ⟨k, rfl⟩ : ∃ m, k = m + 1 := ⟨k - 1, by omega⟩
    obtain rfl : n = 0 := by simpa using hn
    simp only [impl_power.l0]
    rw [if_neg (by omega), Nat.pow_zero, Nat.mul_one, Nat.mod_eq_of_lt ho]
  | succ j ih =>
    intro k x n o hn hj hk hx ho
    obtain ⟨k, rfl⟩ : ∃ m, k = m + 1 := ⟨k - 1, by omega⟩
    simp only [impl_power.l0]
    by_cases h0 : n = 0
    · subst h0
      rw [if_neg (by omega), Nat.pow_zero, Nat.mul_one, Nat.mod_eq_of_lt ho]
    · have hp : 2 ^ (j + 1) ≤ 2 ^ 62 := Nat.pow_le_pow_right (by omega) hj
      have hb : Int.tmod (n : Int) 2 = (n : Int) % 2 := Int.tmod_eq_emod_of_nonneg (by omega)
      have hd : wrap64 (Int.tdiv (n : Int) 2) = ((n / 2 : Nat) : Int) := by
        rw [Int.tdiv_eq_ediv_of_nonneg (by omega), w64 (by omega) (by omega)]; omega
      have hx2 : x * x % m < m := Nat.mod_lt _ (by omega)
      have hn2 : n / 2 < 2 ^ j := by rw [Nat.pow_succ] at hn; omega
      have ex : Int.tmod (wrap64 ((x : Int) * (x : Int))) (m : Int) = ((x * x % m : Nat) : Int) := tmodmul hx hx hm
      rw [if_pos (by omega), hb, hd, ex]
      by_cases h1 : n % 2 = 1
      · have eo : Int.tmod (wrap64 ((o : Int) * (x : Int))) (m : Int) = ((o * x % m : Nat) : Int) := tmodmul ho hx hm
        rw [if_pos (by omega), if_neg (by omega), eo, ih k _ _ _ hn2 (by omega) (by omega) hx2 (Nat.mod_lt _ (by omega)), pow_odd h1]
      · rw [if_neg (by omega), if_neg (by omega), ih k _ _ _ hn2 (by omega) (by omega) hx2 ho, pow_even (by omega)]
theorem impl_power_eq {k : Nat} (hk : 64 ≤ k) {x n m : Int} (X N M : Nat) (hx : x = X) (hn : n = N) (hm : m = M) (hM0 : 1 < M) (hM : M ≤ 2147483647) (hN : N < 4611686018427387904) : impl_power.f k x n m = some ((X ^ N % M : Nat) : Int) := by
  subst hx hn hm
  unfold impl_power.f
  have e : Int.tmod (X : Int) (M : Int) = ((X % M : Nat) : Int) := by
    rw [Int.tmod_eq_emod_of_nonneg (by omega)]; exact (Int.natCast_emod _ _).symm
  have e1 : (1 : Int) % (M : Int) = ((1 : Nat) : Int) := Int.emod_eq_of_lt (by omega) (by omega)
  have h := impl_power_l0 (by omega) hM 62 k (X % M) N 1 (by omega) (by omega) (by omega) (Nat.mod_lt _ (by omega)) (by omega)
  rw [Nat.one_mul, ← Nat.pow_mod] at h
  rw [if_neg (by omega), e, e1]
  exact h
theorem impl_IsGroupElement_eq {k : Nat} (hk : 64 ≤ k) (x : Int) : impl_IsGroupElement.f k x = some (G x) := by
  unfold impl_IsGroupElement.f
  rw [impl_InRange_eq]; simp only [Option.bind_some]
  by_cases h : 1 ≤ x ∧ x ≤ 2038
  · rw [if_pos (by simpa using h), impl_power_eq hk (n := 1019) (m := 2039) x.toNat ord 2039 (by omega) rfl rfl (by omega) (by omega) (by decide)]
    simp only [Option.bind_some]
    congr 1
    unfold G gel
    rw [Bool.eq_iff_iff]
    generalize x.toNat ^ ord % 2039 = z
    simp only [Bool.and_eq_true, decide_eq_true_eq, beq_iff_eq]
    omega
  · rw [if_neg (by simpa using h), G_out h]
theorem impl_Mod_eq {k : Nat} (hk : 0 < k) (a m : Int) (h1 : 1 ≤ m) (h2 : m ≤ 1000000000000) : impl_Mod.f k a m = some (a % m) := by
  obtain ⟨k, rfl⟩ : ∃ j, k = j + 1 := ⟨k - 1, by omega⟩
  unfold impl_Mod.f
  rw [if_neg (by omega)]
  simp only [impl_Mod.j0]
  rw [if_neg (by simp; omega), if_neg (by omega), tmod_two a m h1 h2]
theorem impl_Mod_out {k : Nat} (hk : 0 < k) (a m : Int) (h : ¬ (1 ≤ m ∧ m ≤ 1000000000000)) : impl_Mod.f k a m = some 0 := by
  obtain ⟨k, rfl⟩ : ∃ j, k = j + 1 := ⟨k - 1, by omega⟩
  unfold impl_Mod.f
  by_cases h1 : m < 1
  · rw [if_pos h1]
    simp only [impl_Mod.j0]
    rw [if_pos (by simp)]
  · rw [if_neg h1]
    simp only [impl_Mod.j0]
    rw [if_pos (by simp; omega)]
theorem impl_PowGroup_eq {k : Nat} (hk : 64 ≤ k) (g n : Int) : impl_PowGroup.f k g n = some (PG g n) := by
  unfold impl_PowGroup.f PG
  rw [impl_IsGroupElement_eq hk]; simp only [Option.bind_some]
  by_cases h : G g = true
  · have := G_elim h
    rw [if_pos h, if_pos h, impl_Mod_eq (by omega) n 1019 (by omega) (by omega)]; simp only [Option.bind_some]
    rw [impl_power_eq hk (m := 2039) g.toNat (n % 1019).toNat 2039 (by omega) (by omega) rfl (by omega) (by omega) (by omega)]; rfl
  · rw [if_neg h, if_neg h]
theorem impl_EvaluateShare_eq {k : Nat} (hk : 64 ≤ k) (i v e : Int) : impl_EvaluateShare.f k i v e = some (if G e = true ∧ e ≠ 1 ∧ 0 ≤ v ∧ v ≤ 1018 then PG e v else 0) := by
  unfold impl_EvaluateShare.f
  rw [impl_IsGroupElement_eq hk]; simp only [Option.bind_some]
  by_cases h : G e = true
  · rw [if_pos h]
    by_cases h1 : e = 1
    · rw [if_pos h1, if_neg (fun h2 => h2.2.1 h1)]
    · rw [if_neg h1, impl_InRange_eq]; simp only [Option.bind_some]
      by_cases h2 : 0 ≤ v ∧ v ≤ 1018
      · rw [if_pos (by simpa using h2), if_pos ⟨h, h1, h2⟩, impl_PowGroup_eq hk]; rfl
      · rw [if_neg (by simpa using h2), if_neg (fun h3 => h2 h3.2.2)]
  · rw [if_neg h, if_neg (fun h2 => h h2.1)]
theorem spec_l1In_eq (a b c : Int) : spec_l1In.f a b c = some (decide (b ≤ a ∧ a ≤ c)) := by
  unfold spec_l1In.f
  by_cases h : b ≤ a
  · rw [if_pos h]; simp [h]
  · rw [if_neg (by omega)]; simp [h]
theorem spec_l4Pow_l0 : ∀ (j k x n o : Nat), n < 2 ^ j → j ≤ 62 → j < k → x < 2039 → o < 2039 → spec_l4Pow.l0 k (x : Int) (n : Int) (o : Int) = some ((o * x ^ n % 2039 : Nat) : Int) := by
  intro j
  induction j with
  | zero =>
    intro k x n o hn _ hk hx ho
    obtain ⟨k, rfl⟩ : ∃ m, k = m + 1 := ⟨k - 1, by omega⟩
    obtain rfl : n = 0 := by simpa using hn
    simp only [spec_l4Pow.l0]
    rw [if_neg (by omega), Nat.pow_zero, Nat.mul_one, Nat.mod_eq_of_lt ho]
  | succ j ih =>
    intro k x n o hn hj hk hx ho
    obtain ⟨k, rfl⟩ : ∃ m, k = m + 1 := ⟨k - 1, by omega⟩
    simp only [spec_l4Pow.l0]
    by_cases h0 : n = 0
    · subst h0
      rw [if_neg (by omega), Nat.pow_zero, Nat.mul_one, Nat.mod_eq_of_lt ho]
    · have hp : 2 ^ (j + 1) ≤ 2 ^ 62 := Nat.pow_le_pow_right (by omega) hj
      have hb : Go.bits .and .i64 (n : Int) 1 = (n : Int) % 2 := and1 (by omega) (by omega)
      have hd : (n : Int) / 2 = ((n / 2 : Nat) : Int) := by omega
      have hx2 : x * x % 2039 < 2039 := Nat.mod_lt _ (by omega)
      have hn2 : n / 2 < 2 ^ j := by rw [Nat.pow_succ] at hn; omega
      have ex : Int.tmod (wrap64 ((x : Int) * (x : Int))) 2039 = ((x * x % 2039 : Nat) : Int) := tmodmul (m := 2039) hx hx (by omega)
      rw [if_pos (by omega), hb, hd, ex]
      by_cases h1 : n % 2 = 1
      · have eo : Int.tmod (wrap64 ((o : Int) * (x : Int))) 2039 = ((o * x % 2039 : Nat) : Int) := tmodmul (m := 2039) ho hx (by omega)
        rw [if_pos (by omega), eo, ih k _ _ _ hn2 (by omega) (by omega) hx2 (Nat.mod_lt _ (by omega)), pow_odd h1]
      · rw [if_neg (by omega), ih k _ _ _ hn2 (by omega) (by omega) hx2 ho, pow_even (by omega)]
theorem spec_l4Pow_eq {k : Nat} (hk : 64 ≤ k) {x n : Int} (X N : Nat) (hx : x = X) (hn : n = N) (hX : X < 2039) (hN : N < 4611686018427387904) : spec_l4Pow.f k x n = some ((X ^ N % 2039 : Nat) : Int) := by
  subst hx hn
  unfold spec_l4Pow.f
  have h := spec_l4Pow_l0 62 k X N 1 (by omega) (by omega) (by omega) hX (by omega)
  rw [Nat.one_mul] at h
  exact h
theorem spec_IsGroupElement_eq {k : Nat} (hk : 64 ≤ k) (x : Int) : spec_IsGroupElement.f k x = some (G x) := by
  unfold spec_IsGroupElement.f
  rw [spec_l1In_eq]; simp only [Option.bind_some]
  by_cases h : 1 ≤ x ∧ x ≤ 2038
  · rw [if_pos (by simpa using h), spec_l4Pow_eq hk (n := 1019) x.toNat ord (by omega) rfl (by omega) (by decide)]
    simp only [Option.bind_some]
    congr 1
    unfold G gel
    rw [Bool.eq_iff_iff]
    generalize x.toNat ^ ord % 2039 = z
    simp only [Bool.and_eq_true, decide_eq_true_eq, beq_iff_eq]
    omega
  · rw [if_neg (by simpa using h), G_out h]
theorem spec_Mod_eq (a m : Int) (h1 : 1 ≤ m) (h2 : m ≤ 1000000000000) : spec_Mod.f a m = some (a % m) := by
  unfold spec_Mod.f
  rw [spec_l1In_eq]; simp only [Option.bind_some]
  rw [if_pos (by simp; omega), if_neg (by omega), tmod_fix h1 h2]
theorem spec_Mod_out (a m : Int) (h : ¬ (1 ≤ m ∧ m ≤ 1000000000000)) : spec_Mod.f a m = some 0 := by
  unfold spec_Mod.f
  rw [spec_l1In_eq]; simp only [Option.bind_some]
  rw [if_neg (by simpa using h)]
theorem spec_PowGroup_eq {k : Nat} (hk : 64 ≤ k) (g n : Int) : spec_PowGroup.f k g n = some (PG g n) := by
  unfold spec_PowGroup.f PG
  rw [spec_IsGroupElement_eq hk]; simp only [Option.bind_some]
  by_cases h : G g = true
  · have := G_elim h
    rw [if_pos h, if_pos h, spec_Mod_eq n 1019 (by omega) (by omega)]; simp only [Option.bind_some]
    rw [spec_l4Pow_eq hk g.toNat (n % 1019).toNat (by omega) (by omega) (by omega) (by omega)]; rfl
  · rw [if_neg h, if_neg h]
theorem spec_EvaluateShare_eq {k : Nat} (hk : 64 ≤ k) (i v e : Int) : spec_EvaluateShare.f k i v e = some (if G e = true ∧ e ≠ 1 ∧ 0 ≤ v ∧ v ≤ 1018 then PG e v else 0) := by
  unfold spec_EvaluateShare.f
  rw [spec_IsGroupElement_eq hk]; simp only [Option.bind_some]
  by_cases h : G e = true
  · rw [if_pos h]
    by_cases h1 : e = 1
    · rw [if_pos h1, if_neg (fun h2 => h2.2.1 h1)]
    · rw [if_neg h1, spec_l1In_eq]; simp only [Option.bind_some]
      by_cases h2 : 0 ≤ v ∧ v ≤ 1018
      · rw [if_pos (by simpa using h2), if_pos ⟨h, h1, h2⟩, spec_PowGroup_eq hk]; rfl
      · rw [if_neg (by simpa using h2), if_neg (fun h3 => h2 h3.2.2)]
  · rw [if_neg h, if_neg (fun h2 => h h2.1)]

theorem proved : laws_FnExactEvaluateShare.Pure := by
  intro a b c
  refine ⟨1000, ?_⟩
  unfold laws_FnExactEvaluateShare.f laws_toShare.f
  simp only [Option.bind_some, spec_EvaluateShare_eq (show 64 ≤ 1000 by omega), impl_EvaluateShare_eq (show 64 ≤ 1000 by omega)]
  simp only [↓reduceIte]
end KFnExactEvaluateShare
theorem FnExactEvaluateShare : laws_FnExactEvaluateShare.Pure := KFnExactEvaluateShare.proved
end Go.Proofs.Ytgeokjhijihpaaa.Pure
