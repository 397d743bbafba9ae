/- the program's VerifyEqual answers as the reference's, for all arguments. -/
import Derived.Test.YtgeokjhijihpaaaPFnExactVerifyEqualx3
import Derived.Test.YtgeokjhijihpaaaNum2
set_option linter.unusedVariables false
set_option linter.unusedSimpArgs false
namespace Go.Proofs.Ytgeokjhijihpaaa.Pure
open Go.RowKit Go.Proofs.Ytgeokjhijihpaaa.PFnExactVerifyEqual Go.Proofs.YtgeokjhijihpaaaW.PrintWords Go.Proofs.YtgeokjhijihpaaaW.PrintLast Go.Proofs.Ytgeokjhijihpaaa.Num
namespace KFnExactVerifyEqual
theorem spec_l1In_eq (a b c : Int) : spec_l1In.f a b c = some (decide (b ≤ a ∧ a ≤ c)) := by
  unfold spec_l1In.f
  by_cases h : b ≤ a
  · rw [if_pos h]; simp [h]
  · rw [if_neg (by omega)]; simp [h]
theorem spec_l4Pow_l0 : ∀ (j k x n o : Nat), n < 2 ^ j → j ≤ 62 → j < k → x < 2039 → o < 2039 → spec_l4Pow.l0 k (x : Int) (n : Int) (o : Int) = some ((o * x ^ n % 2039 : Nat) : Int) := by
  intro j
  induction j with
  | zero =>
    intro k x n o hn _ hk hx ho
    obtain ⟨k, rfl⟩ : ∃ m, k = m + 1 := ⟨k - 1, by omega⟩
    obtain rfl : n = 0 := by simpa using hn
    simp only [spec_l4Pow.l0]
    rw [if_neg (by omega), Nat.pow_zero, Nat.mul_one, Nat.mod_eq_of_lt ho]
  | succ j ih =>
    intro k x n o hn hj hk hx ho
    obtain ⟨k, rfl⟩ : ∃ m, k = m + 1 := ⟨k - 1, by omega⟩
    simp only [spec_l4Pow.l0]
    by_cases h0 : n = 0
    · subst h0
      rw [if_neg (by omega), Nat.pow_zero, Nat.mul_one, Nat.mod_eq_of_lt ho]
    · have hp : 2 ^ (j + 1) ≤ 2 ^ 62 := Nat.pow_le_pow_right (by omega) hj
      have hb : Go.bits .and .i64 (n : Int) 1 = (n : Int) % 2 := and1 (by omega) (by omega)
      have hd : (n : Int) / 2 = ((n / 2 : Nat) : Int) := by omega
      have hx2 : x * x % 2039 < 2039 := Nat.mod_lt _ (by omega)
      have hn2 : n / 2 < 2 ^ j := by rw [Nat.pow_succ] at hn; omega
      have ex : Int.tmod (wrap64 ((x : Int) * (x : Int))) 2039 = ((x * x % 2039 : Nat) : Int) := tmodmul (m := 2039) hx hx (by omega)
      rw [if_pos (by omega), hb, hd, ex]
      by_cases h1 : n % 2 = 1
      · have eo : Int.tmod (wrap64 ((o : Int) * (x : Int))) 2039 = ((o * x % 2039 : Nat) : Int) := tmodmul (m := 2039) ho hx (by omega)
        rw [if_pos (by omega), eo, ih k _ _ _ hn2 (by omega) (by omega) hx2 (Nat.mod_lt _ (by omega)), pow_odd h1]
      · rw [if_neg (by omega), ih k _ _ _ hn2 (by omega) (by omega) hx2 ho, pow_even (by omega)]
theorem spec_l4Pow_eq {k : Nat} (hk : 64 ≤ k) {x n : Int} (X N : Nat) (hx : x = X) (hn : n = N) (hX : X < 2039) (hN : N < 4611686018427387904) : spec_l4Pow.f k x n = some ((X ^ N % 2039 : Nat) : Int) := by
  subst hx hn
  unfold spec_l4Pow.f
  have h := spec_l4Pow_l0 62 k X N 1 (by omega) (by omega) (by omega) hX (by omega)
  rw [Nat.one_mul] at h
  exact h
theorem spec_IsGroupElement_eq {k : Nat} (hk : 64 ≤ k) (x : Int) : spec_IsGroupElement.f k x = some (G x) := by
  unfold spec_IsGroupElement.f
  rw [spec_l1In_eq]; simp only [Option.bind_some]
  by_cases h : 1 ≤ x ∧ x ≤ 2038
  · rw [if_pos (by simpa using h), spec_l4Pow_eq hk (n := 1019) x.toNat ord (by omega) rfl (by omega) (by decide)]
    simp only [Option.bind_some]
    congr 1
    unfold G gel
    rw [Bool.eq_iff_iff]
    generalize x.toNat ^ ord % 2039 = z
    simp only [Bool.and_eq_true, decide_eq_true_eq, beq_iff_eq]
    omega
  · rw [if_neg (by simpa using h), G_out h]
theorem spec_MulGroup_eq {k : Nat} (hk : 64 ≤ k) (a b : Int) : spec_MulGroup.f k a b = some (MG a b) := by
  unfold spec_MulGroup.f MG
  rw [spec_IsGroupElement_eq hk, spec_IsGroupElement_eq hk]; simp only [Option.bind_some]
  by_cases h : G a = true
  · by_cases h' : G b = true
    · have h1 := G_elim h
      have h2 := G_elim h'
      have h3 : 0 ≤ a * b := Int.mul_nonneg (by omega) (by omega)
      have h4 : a * b ≤ 2038 * 2038 := Int.mul_le_mul (by omega) (by omega) (by omega) (by omega)
      rw [if_pos h, if_pos h', if_pos ⟨h, h'⟩, w64 (by omega) (by omega), Int.tmod_eq_emod_of_nonneg h3]
    · rw [if_pos h, if_neg h', if_neg (fun h3 => h' h3.2)]
  · rw [if_neg h, if_neg (fun h3 => h h3.1)]
theorem spec_Mod_eq (a m : Int) (h1 : 1 ≤ m) (h2 : m ≤ 1000000000000) : spec_Mod.f a m = some (a % m) := by
  unfold spec_Mod.f
  rw [spec_l1In_eq]; simp only [Option.bind_some]
  rw [if_pos (by simp; omega), if_neg (by omega), tmod_fix h1 h2]
theorem spec_Mod_out (a m : Int) (h : ¬ (1 ≤ m ∧ m ≤ 1000000000000)) : spec_Mod.f a m = some 0 := by
  unfold spec_Mod.f
  rw [spec_l1In_eq]; simp only [Option.bind_some]
  rw [if_neg (by simpa using h)]
theorem spec_PowGroup_eq {k : Nat} (hk : 64 ≤ k) (g n : Int) : spec_PowGroup.f k g n = some (PG g n) := by
  unfold spec_PowGroup.f PG
  rw [spec_IsGroupElement_eq hk]; simp only [Option.bind_some]
  by_cases h : G g = true
  · have := G_elim h
    rw [if_pos h, if_pos h, spec_Mod_eq n 1019 (by omega) (by omega)]; simp only [Option.bind_some]
    rw [spec_l4Pow_eq hk g.toNat (n % 1019).toNat (by omega) (by omega) (by omega) (by omega)]; rfl
  · rw [if_neg h, if_neg h]
theorem spec_Hash_l0 (l : List Int) (hl : l.length ≤ 4611686018427387904) : ∀ (j k i : Nat) (d : Int), l.length - i ≤ j → j < k → 0 ≤ d → d < 2147483647 → spec_Hash.l0 k l d (i : Int) = some (Hs d (l.drop i)) := by
  intro j
  induction j with
  | zero =>
    intro k i d hi hk h0 h1
    obtain ⟨k, rfl⟩ : ∃ m, k = m + 1 := ⟨k - 1, by omega⟩
    simp only [spec_Hash.l0]
    rw [if_neg (by omega), List.drop_eq_nil_of_le (by omega)]; rfl
  | succ j ih =>
    intro k i d hi hk h0 h1
    obtain ⟨k, rfl⟩ : ∃ m, k = m + 1 := ⟨k - 1, by omega⟩
    simp only [spec_Hash.l0]
    by_cases h : i < l.length
    · rw [if_pos (by omega), if_pos (by omega), spec_Mod_eq _ 2147483647 (by omega) (by omega)]; simp only [Option.bind_some]
      rw [rd_at h, hstep_go h0 h1, nxt (by omega), ih k (i + 1) _ (by omega) (by omega) (hstep_range _ _).1 (hstep_range _ _).2, Hs_drop d h]
    · rw [if_neg (by omega), List.drop_eq_nil_of_le (by omega)]; rfl
theorem spec_Hash_eq {k : Nat} (l : List Int) (hl : l.length ≤ 4611686018427387904) (hk : l.length < k) : spec_Hash.f k l = some (Hs 11 l) := by
  unfold spec_Hash.f
  exact spec_Hash_l0 l hl l.length k 0 11 (by omega) hk (by omega) (by omega)
theorem spec_KeyedHash_eq {k : Nat} (a : Int) (l : List Int) (hl : l.length ≤ 1000000000000) (hk : l.length + 2 < k) : spec_KeyedHash.f k a l = some (KH a l) := by
  unfold spec_KeyedHash.f
  simp only [Option.bind_some]
  rw [if_pos (by simp; omega), if_pos (by simp; omega), spec_Hash_eq _ (by simp; omega) (by simp; omega)]; rfl
theorem spec_l4Challenge_eq {k : Nat} (l : List Int) (hl : l.length ≤ 1000) (hk : l.length + 2 < k) : spec_l4Challenge.f k l = some (KH 97 l % 1019) := by
  unfold spec_l4Challenge.f
  rw [spec_KeyedHash_eq _ _ (by omega) hk]; simp only [Option.bind_some]
  rw [Int.tmod_eq_emod_of_nonneg (KH_range _ _).1]
theorem spec_VerifyEqual_eq {k : Nat} (hk : 100 ≤ k) (g h u v c r : Int) : spec_VerifyEqual.f k g h u v c r = some (VE g h u v c r) := by
  unfold spec_VerifyEqual.f VE
  simp only [spec_IsGroupElement_eq (show 64 ≤ k by omega), spec_l1In_eq, Option.bind_some]
  obtain ⟨k, rfl⟩ : ∃ j, k = j + 1 := ⟨k - 1, by omega⟩
  simp only [spec_VerifyEqual.j0]
  by_cases hg : G g = true
  · rw [if_pos hg]
    by_cases hh : G h = true
    · rw [if_pos hh]
      by_cases hu : G u = true
      · rw [if_pos hu]
        by_cases hv : G v = true
        · rw [if_pos hv]
          by_cases hc : 0 ≤ c ∧ c ≤ 1018
          · rw [if_pos (by simpa using hc)]
            by_cases hr : 0 ≤ r ∧ r ≤ 1018
            · rw [if_neg (by simpa using hr), if_pos ⟨hg, hh, hu, hv, hc, hr⟩]
              have hk' := KH_range 97 [g, h, u, v, MG (PG g r) (PG u c), MG (PG h r) (PG v c)]
              simp only [spec_PowGroup_eq (show 64 ≤ k by omega), spec_MulGroup_eq (show 64 ≤ k by omega), Option.bind_some, spec_l4Challenge_eq _ (show ([g, h, u, v, MG (PG g r) (PG u c), MG (PG h r) (PG v c)] : List Int).length ≤ 1000 by simp) (show ([g, h, u, v, MG (PG g r) (PG u c), MG (PG h r) (PG v c)] : List Int).length + 2 < k by simp; omega)]
            · rw [if_pos (by rw [decide_eq_false hr]; rfl), if_neg (fun h1 => hr h1.2.2.2.2.2)]
          · rw [if_neg (by simpa using hc), if_pos (by simp), if_neg (fun h1 => hc h1.2.2.2.2.1)]
        · rw [if_neg hv, if_pos (by simp), if_neg (fun h1 => hv h1.2.2.2.1)]
      · rw [if_neg hu, if_pos (by simp), if_neg (fun h1 => hu h1.2.2.1)]
    · rw [if_neg hh, if_pos (by simp), if_neg (fun h1 => hh h1.2.1)]
  · rw [if_neg hg, if_pos (by simp), if_neg (fun h1 => hg h1.1)]
theorem impl_InRange_eq (a b c : Int) : impl_InRange.f a b c = some (decide (b ≤ a ∧ a ≤ c)) := by
  unfold impl_InRange.f
  by_cases h : b ≤ a
  · rw [if_pos h]; simp [h]
  · rw [if_neg h]; simp [h]
theorem impl_power_l0 {m : Nat} (hm0 : 0 < m) (hm : m ≤ 2147483647) : ∀ (j k x n o : Nat), n < 2 ^ j → j ≤ 62 → j < k → x < m → o < m → impl_power.l0 k (x : Int) (n : Int) (m : Int) (o : Int) = some ((o * x ^ n % m : Nat) : Int) := by
  intro j
  induction j with
  | zero =>
    intro k x n o hn _ hk hx ho
    obtain ⟨k, rfl⟩ : ∃ m, k = m + 1 := ⟨k - 1, by omega⟩
    obtain rfl : n = 0 := by simpa using hn
    simp only [impl_power.l0]
    rw [if_neg (by omega), Nat.pow_zero, Nat.mul_one, Nat.mod_eq_of_lt ho]
  | succ j ih =>
    intro k x n o hn hj hk hx ho
    obtain ⟨k, rfl⟩ : ∃ m, k = m + 1 := ⟨k - 1, by omega⟩
    simp only [impl_power.l0]
    by_cases h0 : n = 0
    · subst h0
      rw [if_neg (by omega), Nat.pow_zero, Nat.mul_one, Nat.mod_eq_of_lt ho]
    · have hp : 2 ^ (j + 1) ≤ 2 ^ 62 := Nat.pow_le_pow_right (by omega) hj
      have hb : Int.tmod (n : Int) 2 = (n : Int) % 2 := Int.tmod_eq_emod_of_nonneg (by omega)
      have hd : wrap64 (Int.tdiv (n : Int) 2) = ((n / 2 : Nat) : Int) := by
        rw [Int.tdiv_eq_ediv_of_nonneg (by omega), w64 (by omega) (by omega)]; omega
      have hx2 : x * x % m < m := Nat.mod_lt _ (by omega)
      have hn2 : n / 2 < 2 ^ j := by rw [Nat.pow_succ] at hn; omega
      have ex : Int.tmod (wrap64 ((x : Int) * (x : Int))) (m : Int) = ((x * x % m : Nat) : Int) := tmodmul hx hx hm
      rw [if_pos (by omega), hb, hd, ex]
      by_cases h1 : n % 2 = 1
      · have eo : Int.tmod (wrap64 ((o : Int) * (x : Int))) (m : Int) = ((o * x % m : Nat) : Int) := tmodmul ho hx hm
        rw [if_pos (by omega), if_neg (by omega), eo, ih k _ _ _ hn2 (by omega) (by omega) hx2 (Nat.mod_lt _ (by omega)), pow_odd h1]
      · rw [if_neg (by omega), if_neg (by omega), ih k _ _ _ hn2 (by omega) (by omega) hx2 ho, pow_even (by omega)]
theorem impl_power_eq {k : Nat} (hk : 64 ≤ k) {x n m : Int} (X N M : Nat) (hx : x = X) (hn : n = N) (hm : m = M) (hM0 : 1 < M) (hM : M ≤ 2147483647) (hN : N < 4611686018427387904) : impl_power.f k x n m = some ((X ^ N % M : Nat) : Int) := by
  subst hx hn hm
  unfold impl_power.f
  have e : Int.tmod (X : Int) (M : Int) = ((X % M : Nat) : Int) := by
    rw [Int.tmod_eq_emod_of_nonneg (by omega)]; exact (Int.natCast_emod _ _).symm
  have e1 : (1 : Int) % (M : Int) = ((1 : Nat) : Int) := Int.emod_eq_of_lt (by omega) (by omega)
  have h := impl_power_l0 (by omega) hM 62 k (X % M) N 1 (by omega) (by omega) (by omega) (Nat.mod_lt _ (by omega)) (by omega)
  rw [Nat.one_mul, ← Nat.pow_mod] at h
  rw [if_neg (by omega), e, e1]
  exact h
theorem impl_IsGroupElement_eq {k : Nat} (hk : 64 ≤ k) (x : Int) : impl_IsGroupElement.f k x = some (G x) := by
  unfold impl_IsGroupElement.f
  rw [impl_InRange_eq]; simp only [Option.bind_some]
  by_cases h : 1 ≤ x ∧ x ≤ 2038
  · rw [if_pos (by simpa using h), impl_power_eq hk (n := 1019) (m := 2039) x.toNat ord 2039 (by omega) rfl rfl (by omega) (by omega) (by decide)]
    simp only [Option.bind_some]
    congr 1
    unfold G gel
    rw [Bool.eq_iff_iff]
    generalize x.toNat ^ ord % 2039 = z
    simp only [Bool.and_eq_true, decide_eq_true_eq, beq_iff_eq]
    omega
  · rw [if_neg (by simpa using h), G_out h]
theorem impl_MulGroup_eq {k : Nat} (hk : 64 ≤ k) (a b : Int) : impl_MulGroup.f k a b = some (MG a b) := by
  unfold impl_MulGroup.f MG
  rw [impl_IsGroupElement_eq hk, impl_IsGroupElement_eq hk]; simp only [Option.bind_some]
  by_cases h : G a = true
  · by_cases h' : G b = true
    · have h1 := G_elim h
      have h2 := G_elim h'
      have h3 : 0 ≤ a * b := Int.mul_nonneg (by omega) (by omega)
      have h4 : a * b ≤ 2038 * 2038 := Int.mul_le_mul (by omega) (by omega) (by omega) (by omega)
      rw [if_pos h, if_pos h', if_pos ⟨h, h'⟩, w64 (by omega) (by omega), Int.tmod_eq_emod_of_nonneg h3]
    · rw [if_pos h, if_neg h', if_neg (fun h3 => h' h3.2)]
  · rw [if_neg h, if_neg (fun h3 => h h3.1)]
theorem impl_Mod_eq {k : Nat} (hk : 0 < k) (a m : Int) (h1 : 1 ≤ m) (h2 : m ≤ 1000000000000) : impl_Mod.f k a m = some (a % m) := by
  obtain ⟨k, rfl⟩ : ∃ j, k = j + 1 := ⟨k - 1, by omega⟩
  unfold impl_Mod.f
  rw [if_neg (by omega)]
  simp only [impl_Mod.j0]
  rw [if_neg (by simp; omega), if_neg (by omega), tmod_two a m h1 h2]
theorem impl_Mod_out {k : Nat} (hk : 0 < k) (a m : Int) (h : ¬ (1 ≤ m ∧ m ≤ 1000000000000)) : impl_Mod.f k a m = some 0 := by
  obtain ⟨k, rfl⟩ : ∃ j, k = j + 1 := ⟨k - 1, by omega⟩
  unfold impl_Mod.f
  by_cases h1 : m < 1
  · rw [if_pos h1]
    simp only [impl_Mod.j0]
    rw [if_pos (by simp)]
  · rw [if_neg h1]
    simp only [impl_Mod.j0]
    rw [if_pos (by simp; omega)]
theorem impl_PowGroup_eq {k : Nat} (hk : 64 ≤ k) (g n : Int) : impl_PowGroup.f k g n = some (PG g n) := by
  unfold impl_PowGroup.f PG
  rw [impl_IsGroupElement_eq hk]; simp only [Option.bind_some]
  by_cases h : G g = true
  · have := G_elim h
    rw [if_pos h, if_pos h, impl_Mod_eq (by omega) n 1019 (by omega) (by omega)]; simp only [Option.bind_some]
    rw [impl_power_eq hk (m := 2039) g.toNat (n % 1019).toNat 2039 (by omega) (by omega) rfl (by omega) (by omega) (by omega)]; rfl
  · rw [if_neg h, if_neg h]
theorem impl_Hash_l0 (l : List Int) (hl : l.length ≤ 4611686018427387904) : ∀ (j k i : Nat) (d : Int), l.length - i ≤ j → j < k → 0 ≤ d → d < 2147483647 → impl_Hash.l0 k d l (l.length : Int) (i : Int) = some (Hs d (l.drop i)) := by
  intro j
  induction j with
  | zero =>
    intro k i d hi hk h0 h1
    obtain ⟨k, rfl⟩ : ∃ m, k = m + 1 := ⟨k - 1, by omega⟩
    simp only [impl_Hash.l0]
    rw [if_neg (by omega), List.drop_eq_nil_of_le (by omega)]; rfl
  | succ j ih =>
    intro k i d hi hk h0 h1
    obtain ⟨k, rfl⟩ : ∃ m, k = m + 1 := ⟨k - 1, by omega⟩
    simp only [impl_Hash.l0]
    by_cases h : i < l.length
    · rw [if_pos (by omega), if_pos (by omega), if_pos (by omega), impl_Mod_eq (by omega) _ 2147483647 (by omega) (by omega)]; simp only [Option.bind_some]
      rw [rd_at h, hstep_go h0 h1, nxt (by omega), ih k (i + 1) _ (by omega) (by omega) (hstep_range _ _).1 (hstep_range _ _).2, Hs_drop d h]
    · rw [if_neg (by omega), List.drop_eq_nil_of_le (by omega)]; rfl
theorem impl_Hash_eq {k : Nat} (l : List Int) (hl : l.length ≤ 4611686018427387904) (hk : l.length < k) : impl_Hash.f k l = some (Hs 11 l) := by
  unfold impl_Hash.f
  exact impl_Hash_l0 l hl l.length k 0 11 (by omega) hk (by omega) (by omega)
theorem impl_joined_l0 (L : List (List Int)) (hL : L.length ≤ 1000) : ∀ (j k i : Nat) (x : List Int), L.length - i ≤ j → j < k → (x ++ (L.drop i).flatten).length < 17592186044416 → impl_joined.l0 k x L (L.length : Int) (i : Int) = some (x ++ (L.drop i).flatten) := by
  intro j
  induction j with
  | zero =>
    intro k i x hi hk hx
    obtain ⟨k, rfl⟩ : ∃ m, k = m + 1 := ⟨k - 1, by omega⟩
    simp only [impl_joined.l0]
    rw [if_neg (by omega), List.drop_eq_nil_of_le (by omega)]; simp
  | succ j ih =>
    intro k i x hi hk hx
    obtain ⟨k, rfl⟩ : ∃ m, k = m + 1 := ⟨k - 1, by omega⟩
    simp only [impl_joined.l0]
    by_cases h : i < L.length
    · have e : rd_L1 L (i : Int) = L[i] := by
        unfold rd_L1
        simp [List.getD_eq_getElem?_getD, h]
      rw [List.drop_eq_getElem_cons h, List.flatten_cons, ← List.append_assoc] at hx ⊢
      have hx' : (x ++ L[i]).length < 17592186044416 := by
        rw [List.length_append] at hx; omega
      rw [if_pos (by omega), if_pos (by omega), if_pos (by omega), e, if_pos (by rw [← List.length_append]; exact hx'), nxt (by omega)]
      exact ih k (i + 1) _ (by omega) (by omega) hx
    · rw [if_neg (by omega), List.drop_eq_nil_of_le (by omega)]; simp
theorem impl_joined_eq {k : Nat} (x : List Int) (L : List (List Int)) (hL : L.length ≤ 1000) (hk : L.length < k) (h : (x ++ L.flatten).length < 17592186044416) : impl_joined.f k x L = some (x ++ L.flatten) := by
  unfold impl_joined.f
  simp only [Option.bind_some]
  rw [if_pos (by rw [List.length_append] at h; simp; omega), List.nil_append]
  exact impl_joined_l0 L hL L.length k 0 x (by omega) hk h
theorem impl_KeyedHash_eq {k : Nat} (a : Int) (l : List Int) (hl : l.length ≤ 1000000000000) (hk : l.length + 2 < k) : impl_KeyedHash.f k a l = some (KH a l) := by
  unfold impl_KeyedHash.f
  rw [impl_joined_eq _ _ (by simp) (by simp; omega) (by simp; omega)]; simp only [Option.bind_some]
  rw [impl_Hash_eq _ (by simp; omega) (by simp; omega)]
  simp only [Option.bind_some]
  congr 2
theorem impl_VerifyEqual_eq {k : Nat} (hk : 100 ≤ k) (g h u v c r : Int) : impl_VerifyEqual.f k g h u v c r = some (VE g h u v c r) := by
  unfold impl_VerifyEqual.f VE
  simp only [impl_IsGroupElement_eq (show 64 ≤ k by omega), impl_InRange_eq, Option.bind_some]
  obtain ⟨k, rfl⟩ : ∃ j, k = j + 1 := ⟨k - 1, by omega⟩
  simp only [impl_VerifyEqual.j0]
  by_cases hg : G g = true
  · rw [if_pos hg]
    by_cases hh : G h = true
    · rw [if_pos hh]
      by_cases hu : G u = true
      · rw [if_pos hu]
        by_cases hv : G v = true
        · rw [if_pos hv]
          by_cases hc : 0 ≤ c ∧ c ≤ 1018
          · rw [if_pos (by simpa using hc)]
            by_cases hr : 0 ≤ r ∧ r ≤ 1018
            · rw [if_neg (by simpa using hr), if_pos ⟨hg, hh, hu, hv, hc, hr⟩]
              have hk' := KH_range 97 [g, h, u, v, MG (PG g r) (PG u c), MG (PG h r) (PG v c)]
              simp only [impl_PowGroup_eq (show 64 ≤ k by omega), impl_MulGroup_eq (show 64 ≤ k by omega), Option.bind_some, impl_KeyedHash_eq 97 _ (show ([g, h, u, v, MG (PG g r) (PG u c), MG (PG h r) (PG v c)] : List Int).length ≤ 1000000000000 by simp) (show ([g, h, u, v, MG (PG g r) (PG u c), MG (PG h r) (PG v c)] : List Int).length + 2 < k by simp; omega)]
              rw [Int.tmod_eq_emod_of_nonneg hk'.1]
            · rw [if_pos (by rw [decide_eq_false hr]; rfl), if_neg (fun h1 => hr h1.2.2.2.2.2)]
          · rw [if_neg (by simpa using hc), if_pos (by simp), if_neg (fun h1 => hc h1.2.2.2.2.1)]
        · rw [if_neg hv, if_pos (by simp), if_neg (fun h1 => hv h1.2.2.2.1)]
      · rw [if_neg hu, if_pos (by simp), if_neg (fun h1 => hu h1.2.2.1)]
    · rw [if_neg hh, if_pos (by simp), if_neg (fun h1 => hh h1.2.1)]
  · rw [if_neg hg, if_pos (by simp), if_neg (fun h1 => hg h1.1)]
theorem proved : laws_FnExactVerifyEqual.Pure := by
  intro g h u v c r _ _ _ _ _ _
  obtain ⟨K, hK⟩ : ∃ K : Nat, 3000000 ≤ K := ⟨_, Nat.le_refl _⟩
  refine ⟨K, ?_⟩
  unfold laws_FnExactVerifyEqual.f
  rw [spec_VerifyEqual_eq (by omega), impl_VerifyEqual_eq (by omega)]; simp
end KFnExactVerifyEqual
theorem FnExactVerifyEqual : laws_FnExactVerifyEqual.Pure := KFnExactVerifyEqual.proved
end Go.Proofs.Ytgeokjhijihpaaa.Pure
