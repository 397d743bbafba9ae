/- the group is closed, exponents add up and have inverses, and logarithms are found, for every input. -/
import Derived.Test.YtgeokjhijihpaaaPFnGroupx3
import Derived.Test.YtgeokjhijihpaaaNum2
set_option linter.unusedVariables false
set_option linter.unusedSimpArgs false
namespace Go.Proofs.Ytgeokjhijihpaaa.Pure
open Go.RowKit Go.Proofs.Ytgeokjhijihpaaa.PFnGroup Go.Proofs.YtgeokjhijihpaaaW.PrintWords Go.Proofs.YtgeokjhijihpaaaW.PrintLast Go.Proofs.Ytgeokjhijihpaaa.Num
namespace KFnGroup
theorem spec_l1In_eq (a b c : Int) : spec_l1In.f a b c = some (decide (b ≤ a ∧ a ≤ c)) := by
  unfold spec_l1In.f
  by_cases h : b ≤ a
  · rw [if_pos h]; simp [h]
  · rw [if_neg (by omega)]; simp [h]
theorem spec_l4Pow_l0 : ∀ (j k x n o : Nat), n < 2 ^ j → j ≤ 62 → j < k → x < 2039 → o < 2039 → spec_l4Pow.l0 k (x : Int) (n : Int) (o : Int) = some ((o * x ^ n % 2039 : Nat) : Int) := by
  intro j
  induction j with
  | zero =>
    intro k x n o hn _ hk hx ho
    obtain ⟨k, rfl⟩ : ∃ m, k = m + 1 := ⟨k - 1, by omega⟩
    obtain rfl : n = 0 := by simpa using hn
    simp only [spec_l4Pow.l0]
    rw [if_neg (by omega), Nat.pow_zero, Nat.mul_one, Nat.mod_eq_of_lt ho]
  | succ j ih =>
    intro k x n o hn hj hk hx ho
    obtain ⟨k, rfl⟩ : ∃ m, k = m + 1 := ⟨k - 1, by omega⟩
    simp only [spec_l4Pow.l0]
    by_cases h0 : n = 0
    · subst h0
      rw [if_neg (by omega), Nat.pow_zero, Nat.mul_one, Nat.mod_eq_of_lt ho]
    · have hp : 2 ^ (j + 1) ≤ 2 ^ 62 := Nat.pow_le_pow_right (by omega) hj
      have hb : Go.bits .and .i64 (n : Int) 1 = (n : Int) % 2 := and1 (by omega) (by omega)
      have hd : (n : Int) / 2 = ((n / 2 : Nat) : Int) := by omega
      have hx2 : x * x % 2039 < 2039 := Nat.mod_lt _ (by omega)
      have hn2 : n / 2 < 2 ^ j := by rw [Nat.pow_succ] at hn; omega
      have ex : Int.tmod (wrap64 ((x : Int) * (x : Int))) 2039 = ((x * x % 2039 : Nat) : Int) := tmodmul (m := 2039) hx hx (by omega)
      rw [if_pos (by omega), hb, hd, ex]
      by_cases h1 : n % 2 = 1
      · have eo : Int.tmod (wrap64 ((o : Int) * (x : Int))) 2039 = ((o * x % 2039 : Nat) : Int) := tmodmul (m := 2039) ho hx (by omega)
        rw [if_pos (by omega), eo, ih k _ _ _ hn2 (by omega) (by omega) hx2 (Nat.mod_lt _ (by omega)), pow_odd h1]
      · rw [if_neg (by omega), ih k _ _ _ hn2 (by omega) (by omega) hx2 ho, pow_even (by omega)]
theorem spec_l4Pow_eq {k : Nat} (hk : 64 ≤ k) {x n : Int} (X N : Nat) (hx : x = X) (hn : n = N) (hX : X < 2039) (hN : N < 4611686018427387904) : spec_l4Pow.f k x n = some ((X ^ N % 2039 : Nat) : Int) := by
  subst hx hn
  unfold spec_l4Pow.f
  have h := spec_l4Pow_l0 62 k X N 1 (by omega) (by omega) (by omega) hX (by omega)
  rw [Nat.one_mul] at h
  exact h
theorem spec_IsGroupElement_eq {k : Nat} (hk : 64 ≤ k) (x : Int) : spec_IsGroupElement.f k x = some (G x) := by
  unfold spec_IsGroupElement.f
  rw [spec_l1In_eq]; simp only [Option.bind_some]
  by_cases h : 1 ≤ x ∧ x ≤ 2038
  · rw [if_pos (by simpa using h), spec_l4Pow_eq hk (n := 1019) x.toNat ord (by omega) rfl (by omega) (by decide)]
    simp only [Option.bind_some]
    congr 1
    unfold G gel
    rw [Bool.eq_iff_iff]
    generalize x.toNat ^ ord % 2039 = z
    simp only [Bool.and_eq_true, decide_eq_true_eq, beq_iff_eq]
    omega
  · rw [if_neg (by simpa using h), G_out h]
theorem impl_InRange_eq (a b c : Int) : impl_InRange.f a b c = some (decide (b ≤ a ∧ a ≤ c)) := by
  unfold impl_InRange.f
  by_cases h : b ≤ a
  · rw [if_pos h]; simp [h]
  · rw [if_neg h]; simp [h]
theorem impl_power_l0 {m : Nat} (hm0 : 0 < m) (hm : m ≤ 2147483647) : ∀ (j k x n o : Nat), n < 2 ^ j → j ≤ 62 → j < k → x < m → o < m → impl_power.l0 k (x : Int) (n : Int) (m : Int) (o : Int) = some ((o * x ^ n % m : Nat) : Int) := by
  intro j
  induction j with
  | zero =>
    intro k x n o hn _ hk hx ho
    obtain ⟨k, rfl⟩ : ∃ m, k = m + 1 := ⟨k - 1, by omega⟩
    obtain rfl : n = 0 := by simpa using hn
    simp only [impl_power.l0]
    rw [if_neg (by omega), Nat.pow_zero, Nat.mul_one, Nat.mod_eq_of_lt ho]
  | succ j ih =>
    intro k x n o hn hj hk hx ho
    obtain ⟨k, rfl⟩ : ∃ m, k = m + 1 := ⟨k - 1, by omega⟩
    simp only [impl_power.l0]
    by_cases h0 : n = 0
    · subst h0
      rw [if_neg (by omega), Nat.pow_zero, Nat.mul_one, Nat.mod_eq_of_lt ho]
    · have hp : 2 ^ (j + 1) ≤ 2 ^ 62 := Nat.pow_le_pow_right (by omega) hj
      have hb : Int.tmod (n : Int) 2 = (n : Int) % 2 := Int.tmod_eq_emod_of_nonneg (by omega)
      have hd : wrap64 (Int.tdiv (n : Int) 2) = ((n / 2 : Nat) : Int) := by
        rw [Int.tdiv_eq_ediv_of_nonneg (by omega), w64 (by omega) (by omega)]; omega
      have hx2 : x * x % m < m := Nat.mod_lt _ (by omega)
      have hn2 : n / 2 < 2 ^ j := by rw [Nat.pow_succ] at hn; omega
      have ex : Int.tmod (wrap64 ((x : Int) * (x : Int))) (m : Int) = ((x * x % m : Nat) : Int) := tmodmul hx hx hm
      rw [if_pos (by omega), hb, hd, ex]
      by_cases h1 : n % 2 = 1
      · have eo : Int.tmod (wrap64 ((o : Int) * (x : Int))) (m : Int) = ((o * x % m : Nat) : Int) := tmodmul ho hx hm
        rw [if_pos (by omega), if_neg (by omega), eo, ih k _ _ _ hn2 (by omega) (by omega) hx2 (Nat.mod_lt _ (by omega)), pow_odd h1]
      · rw [if_neg (by omega), if_neg (by omega), ih k _ _ _ hn2 (by omega) (by omega) hx2 ho, pow_even (by omega)]
theorem impl_power_eq {k : Nat} (hk : 64 ≤ k) {x n m : Int} (X N M : Nat) (hx : x = X) (hn : n = N) (hm : m = M) (hM0 : 1 < M) (hM : M ≤ 2147483647) (hN : N < 4611686018427387904) : impl_power.f k x n m = some ((X ^ N % M : Nat) : Int) := by
  subst hx hn hm
  unfold impl_power.f
  have e : Int.tmod (X : Int) (M : Int) = ((X % M : Nat) : Int) := by
    rw [Int.tmod_eq_emod_of_nonneg (by omega)]; exact (Int.natCast_emod _ _).symm
  have e1 : (1 : Int) % (M : Int) = ((1 : Nat) : Int) := Int.emod_eq_of_lt (by omega) (by omega)
  have h := impl_power_l0 (by omega) hM 62 k (X % M) N 1 (by omega) (by omega) (by omega) (Nat.mod_lt _ (by omega)) (by omega)
  rw [Nat.one_mul, ← Nat.pow_mod] at h
  rw [if_neg (by omega), e, e1]
  exact h
theorem impl_IsGroupElement_eq {k : Nat} (hk : 64 ≤ k) (x : Int) : impl_IsGroupElement.f k x = some (G x) := by
  unfold impl_IsGroupElement.f
  rw [impl_InRange_eq]; simp only [Option.bind_some]
  by_cases h : 1 ≤ x ∧ x ≤ 2038
  · rw [if_pos (by simpa using h), impl_power_eq hk (n := 1019) (m := 2039) x.toNat ord 2039 (by omega) rfl rfl (by omega) (by omega) (by decide)]
    simp only [Option.bind_some]
    congr 1
    unfold G gel
    rw [Bool.eq_iff_iff]
    generalize x.toNat ^ ord % 2039 = z
    simp only [Bool.and_eq_true, decide_eq_true_eq, beq_iff_eq]
    omega
  · rw [if_neg (by simpa using h), G_out h]
theorem impl_MulGroup_eq {k : Nat} (hk : 64 ≤ k) (a b : Int) : impl_MulGroup.f k a b = some (MG a b) := by
  unfold impl_MulGroup.f MG
  rw [impl_IsGroupElement_eq hk, impl_IsGroupElement_eq hk]; simp only [Option.bind_some]
  by_cases h : G a = true
  · by_cases h' : G b = true
    · have h1 := G_elim h
      have h2 := G_elim h'
      have h3 : 0 ≤ a * b := Int.mul_nonneg (by omega) (by omega)
      have h4 : a * b ≤ 2038 * 2038 := Int.mul_le_mul (by omega) (by omega) (by omega) (by omega)
      rw [if_pos h, if_pos h', if_pos ⟨h, h'⟩, w64 (by omega) (by omega), Int.tmod_eq_emod_of_nonneg h3]
    · rw [if_pos h, if_neg h', if_neg (fun h3 => h' h3.2)]
  · rw [if_neg h, if_neg (fun h3 => h h3.1)]
theorem impl_Mod_eq {k : Nat} (hk : 0 < k) (a m : Int) (h1 : 1 ≤ m) (h2 : m ≤ 1000000000000) : impl_Mod.f k a m = some (a % m) := by
  obtain ⟨k, rfl⟩ : ∃ j, k = j + 1 := ⟨k - 1, by omega⟩
  unfold impl_Mod.f
  rw [if_neg (by omega)]
  simp only [impl_Mod.j0]
  rw [if_neg (by simp; omega), if_neg (by omega), tmod_two a m h1 h2]
theorem impl_Mod_out {k : Nat} (hk : 0 < k) (a m : Int) (h : ¬ (1 ≤ m ∧ m ≤ 1000000000000)) : impl_Mod.f k a m = some 0 := by
  obtain ⟨k, rfl⟩ : ∃ j, k = j + 1 := ⟨k - 1, by omega⟩
  unfold impl_Mod.f
  by_cases h1 : m < 1
  · rw [if_pos h1]
    simp only [impl_Mod.j0]
    rw [if_pos (by simp)]
  · rw [if_neg h1]
    simp only [impl_Mod.j0]
    rw [if_pos (by simp; omega)]
theorem impl_PowGroup_eq {k : Nat} (hk : 64 ≤ k) (g n : Int) : impl_PowGroup.f k g n = some (PG g n) := by
  unfold impl_PowGroup.f PG
  rw [impl_IsGroupElement_eq hk]; simp only [Option.bind_some]
  by_cases h : G g = true
  · have := G_elim h
    rw [if_pos h, if_pos h, impl_Mod_eq (by omega) n 1019 (by omega) (by omega)]; simp only [Option.bind_some]
    rw [impl_power_eq hk (m := 2039) g.toNat (n % 1019).toNat 2039 (by omega) (by omega) rfl (by omega) (by omega) (by omega)]; rfl
  · rw [if_neg h, if_neg h]
theorem impl_InverseExponent_eq {k : Nat} (hk : 64 ≤ k) (n : Int) : impl_InverseExponent.f k n = some (IV n) := by
  unfold impl_InverseExponent.f
  rw [impl_Mod_eq (by omega) n 1019 (by omega) (by omega)]; simp only [Option.bind_some]
  by_cases h : n % 1019 = 0
  · rw [if_pos h, IV_zero h]
  · rw [if_neg h, impl_power_eq hk (n := 1017) (m := 1019) (n % 1019).toNat inx 1019 (by omega) rfl rfl (by omega) (by omega) (by decide)]; rfl
theorem impl_DiscreteLog_run (g x : Nat) (hg : g < 2039) : ∀ (d k y e : Nat), 1019 - e = d → d < k → y < 2039 → ∃ r, impl_DiscreteLog.l0 k (g : Int) (x : Int) (y : Int) (e : Int) = some r := by
  intro d
  induction d with
  | zero =>
    intro k y e hd hk hy
    obtain ⟨k, rfl⟩ : ∃ j, k = j + 1 := ⟨k - 1, by omega⟩
    simp only [impl_DiscreteLog.l0]
    rw [if_neg (by omega)]; exact ⟨_, rfl⟩
  | succ d ih =>
    intro k y e hd hk hy
    obtain ⟨k, rfl⟩ : ∃ j, k = j + 1 := ⟨k - 1, by omega⟩
    simp only [impl_DiscreteLog.l0]
    rw [if_pos (by omega)]
    by_cases h : (y : Int) = (x : Int)
    · rw [if_pos h]; exact ⟨_, rfl⟩
    · rw [if_neg h, nxt (by omega)]
      have e1 : Int.tmod (wrap64 ((y : Int) * (g : Int))) 2039 = ((y * g % 2039 : Nat) : Int) := tmodmul (m := 2039) hy hg (by omega)
      rw [e1]
      exact ih k _ (e + 1) (by omega) (by omega) (Nat.mod_lt _ (by omega))

theorem impl_DiscreteLog_find {g n : Nat} (hG : gel g = true) (h1 : g ≠ 1) (hn : n < 1019) : ∀ (d k e : Nat), n - e = d → e ≤ n → d < k → impl_DiscreteLog.l0 k (g : Int) ((g ^ n % 2039 : Nat) : Int) ((g ^ e % 2039 : Nat) : Int) (e : Int) = some (n : Int) := by
  intro d
  induction d with
  | zero =>
    intro k e hd he hk
    obtain ⟨k, rfl⟩ : ∃ j, k = j + 1 := ⟨k - 1, by omega⟩
    obtain rfl : e = n := by omega
    simp only [impl_DiscreteLog.l0]
    rw [if_pos (by omega), if_pos (by simp)]
  | succ d ih =>
    intro k e hd he hk
    obtain ⟨k, rfl⟩ : ∃ j, k = j + 1 := ⟨k - 1, by omega⟩
    simp only [impl_DiscreteLog.l0]
    have hne : ¬ (((g ^ e % 2039 : Nat) : Int) = ((g ^ n % 2039 : Nat) : Int)) := fun h => by
      have := gel_inj hG h1 (by omega) hn (Int.ofNat.inj h)
      omega
    have e1 : Int.tmod (wrap64 (((g ^ e % 2039 : Nat) : Int) * (g : Int))) 2039 = ((g ^ (e + 1) % 2039 : Nat) : Int) := by
      have h2 := tmodmul (m := 2039) (x := g ^ e % 2039) (y := g) (Nat.mod_lt _ (by omega)) (gel_lt hG) (by omega)
      have h3 : g ^ e % 2039 * g % 2039 = g ^ (e + 1) % 2039 := by
        rw [Nat.mul_mod, Nat.mod_mod, ← Nat.mul_mod, Nat.pow_succ]
      rw [h3] at h2
      exact h2
    rw [if_pos (by omega), if_neg hne, nxt (by omega), e1]
    exact ih k (e + 1) (by omega) (by omega) (by omega)
theorem impl_DiscreteLog_out {k : Nat} (hk : 64 ≤ k) {g x : Int} (h : G g = false) : impl_DiscreteLog.f k g x = some (-1) := by
  unfold impl_DiscreteLog.f
  rw [impl_IsGroupElement_eq hk]; simp only [Option.bind_some]
  obtain ⟨k, rfl⟩ : ∃ j, k = j + 1 := ⟨k - 1, by omega⟩
  rw [h, if_neg (by decide)]
  simp only [impl_DiscreteLog.j0]
  rw [if_pos (by simp)]
theorem impl_DiscreteLog_PG {k : Nat} (hk : 1200 ≤ k) {g : Int} (h : G g = true) (h1 : g ≠ 1) (n : Int) : impl_DiscreteLog.f k g (PG g n) = some (n % 1019) := by
  unfold impl_DiscreteLog.f
  rw [impl_IsGroupElement_eq (by omega), impl_IsGroupElement_eq (by omega), G_PG h]; simp only [Option.bind_some]
  rw [if_pos h, if_pos (by simp)]
  obtain ⟨k, rfl⟩ : ∃ j, k = j + 1 := ⟨k - 1, by omega⟩
  simp only [impl_DiscreteLog.j0]
  have hb := G_elim h
  rw [if_neg (by simpa using h1)]
  have e : g = ((g.toNat : Nat) : Int) := by omega
  have hf := impl_DiscreteLog_find (g := g.toNat) (n := (n % 1019).toNat) h (by omega) (by omega) (n % 1019).toNat k 0 (by omega) (by omega) (by omega)
  rw [PG_of h]
  have e2 : n % 1019 = (((n % 1019).toNat : Nat) : Int) := by omega
  rw [← e2, ← e] at hf
  exact hf
theorem impl_Hash_l0 (l : List Int) (hl : l.length ≤ 4611686018427387904) : ∀ (j k i : Nat) (d : Int), l.length - i ≤ j → j < k → 0 ≤ d → d < 2147483647 → impl_Hash.l0 k d l (l.length : Int) (i : Int) = some (Hs d (l.drop i)) := by
  intro j
  induction j with
  | zero =>
    intro k i d hi hk h0 h1
    obtain ⟨k, rfl⟩ : ∃ m, k = m + 1 := ⟨k - 1, by omega⟩
    simp only [impl_Hash.l0]
    rw [if_neg (by omega), List.drop_eq_nil_of_le (by omega)]; rfl
  | succ j ih =>
    intro k i d hi hk h0 h1
    obtain ⟨k, rfl⟩ : ∃ m, k = m + 1 := ⟨k - 1, by omega⟩
    simp only [impl_Hash.l0]
    by_cases h : i < l.length
    · rw [if_pos (by omega), if_pos (by omega), if_pos (by omega), impl_Mod_eq (by omega) _ 2147483647 (by omega) (by omega)]; simp only [Option.bind_some]
      rw [rd_at h, hstep_go h0 h1, nxt (by omega), ih k (i + 1) _ (by omega) (by omega) (hstep_range _ _).1 (hstep_range _ _).2, Hs_drop d h]
    · rw [if_neg (by omega), List.drop_eq_nil_of_le (by omega)]; rfl
theorem impl_Hash_eq {k : Nat} (l : List Int) (hl : l.length ≤ 4611686018427387904) (hk : l.length < k) : impl_Hash.f k l = some (Hs 11 l) := by
  unfold impl_Hash.f
  exact impl_Hash_l0 l hl l.length k 0 11 (by omega) hk (by omega) (by omega)
theorem impl_joined_l0 (L : List (List Int)) (hL : L.length ≤ 1000) : ∀ (j k i : Nat) (x : List Int), L.length - i ≤ j → j < k → (x ++ (L.drop i).flatten).length < 17592186044416 → impl_joined.l0 k x L (L.length : Int) (i : Int) = some (x ++ (L.drop i).flatten) := by
  intro j
  induction j with
  | zero =>
    intro k i x hi hk hx
    obtain ⟨k, rfl⟩ : ∃ m, k = m + 1 := ⟨k - 1, by omega⟩
    simp only [impl_joined.l0]
    rw [if_neg (by omega), List.drop_eq_nil_of_le (by omega)]; simp
  | succ j ih =>
    intro k i x hi hk hx
    obtain ⟨k, rfl⟩ : ∃ m, k = m + 1 := ⟨k - 1, by omega⟩
    simp only [impl_joined.l0]
    by_cases h : i < L.length
    · have e : rd_L1 L (i : Int) = L[i] := by
        unfold rd_L1
        simp [List.getD_eq_getElem?_getD, h]
      rw [List.drop_eq_getElem_cons h, List.flatten_cons, ← List.append_assoc] at hx ⊢
      have hx' : (x ++ L[i]).length < 17592186044416 := by
        rw [List.length_append] at hx; omega
      rw [if_pos (by omega), if_pos (by omega), if_pos (by omega), e, if_pos (by rw [← List.length_append]; exact hx'), nxt (by omega)]
      exact ih k (i + 1) _ (by omega) (by omega) hx
    · rw [if_neg (by omega), List.drop_eq_nil_of_le (by omega)]; simp
theorem impl_joined_eq {k : Nat} (x : List Int) (L : List (List Int)) (hL : L.length ≤ 1000) (hk : L.length < k) (h : (x ++ L.flatten).length < 17592186044416) : impl_joined.f k x L = some (x ++ L.flatten) := by
  unfold impl_joined.f
  simp only [Option.bind_some]
  rw [if_pos (by rw [List.length_append] at h; simp; omega), List.nil_append]
  exact impl_joined_l0 L hL L.length k 0 x (by omega) hk h
theorem impl_KeyedHash_eq {k : Nat} (a : Int) (l : List Int) (hl : l.length ≤ 1000000000000) (hk : l.length + 2 < k) : impl_KeyedHash.f k a l = some (KH a l) := by
  unfold impl_KeyedHash.f
  rw [impl_joined_eq _ _ (by simp) (by simp; omega) (by simp; omega)]; simp only [Option.bind_some]
  rw [impl_Hash_eq _ (by simp; omega) (by simp; omega)]
  simp only [Option.bind_some]
  congr 2
theorem impl_HashToGroup_eq {k : Nat} (hk : 64 ≤ k) (a b : Int) : impl_HashToGroup.f k a b = some (HG a b) := by
  unfold impl_HashToGroup.f
  rw [impl_KeyedHash_eq _ _ (by simp) (by simp; omega)]; simp only [Option.bind_some]
  rw [impl_PowGroup_eq hk, hsq (KH_range _ _).1 (KH_range _ _).2]; rfl
theorem laws_big_eq (l : List Int) : laws_big.f l = some (decide ((l.length : Int) > 1048576)) := rfl
theorem spec_l1New_l0 (l : List Int) (hl : l.length ≤ 4611686018427387904) : ∀ (j k i : Nat) (h : Int), l.length - i ≤ j → j < k → ∃ h', spec_l1New.l0 k l h (i : Int) = some (l, 0, h') := by
  intro j
  induction j with
  | zero =>
    intro k i h hi hk
    obtain ⟨k, rfl⟩ : ∃ m, k = m + 1 := ⟨k - 1, by omega⟩
    simp only [spec_l1New.l0]
    rw [if_neg (by omega)]; exact ⟨_, rfl⟩
  | succ j ih =>
    intro k i h hi hk
    obtain ⟨k, rfl⟩ : ∃ m, k = m + 1 := ⟨k - 1, by omega⟩
    simp only [spec_l1New.l0]
    by_cases h1 : (i : Int) < (l.length : Int)
    · rw [if_pos h1]
      by_cases h2 : (i : Int) < 4000
      · rw [if_pos h2, if_pos (by omega), nxt (by omega)]
        exact ih k (i + 1) _ (by omega) (by omega)
      · rw [if_neg h2]; exact ⟨_, rfl⟩
    · rw [if_neg h1]; exact ⟨_, rfl⟩
theorem spec_l1New_ok {k : Nat} (l : List Int) (hl : l.length ≤ 4611686018427387904) (hk : l.length < k) : ∃ h, spec_l1New.f k l = some (l, 0, h) := by
  unfold spec_l1New.f
  exact spec_l1New_l0 l hl l.length k 0 _ (by omega) hk
theorem spec_l1Byte_ok (l : List Int) (i h : Int) (hi : 0 ≤ i) (hl : l.length ≤ 4611686018427387904) : ∃ v i' h', spec_l1Byte.f l i h = some (v, i', h') ∧ 0 ≤ i' ∧ 0 ≤ v ∧ v ≤ 255 := by
  unfold spec_l1Byte.f
  by_cases h1 : i < (l.length : Int)
  · rw [if_pos h1, if_pos hi, w64 (n := i + 1) (by omega) (by omega)]
    exact ⟨_, _, _, rfl, by omega, (and255_range _).1, (and255_range _).2⟩
  · rw [if_neg h1]
    exact ⟨_, _, _, rfl, hi, (and255_range _).1, (and255_range _).2⟩
theorem spec_l1Below_ok (l : List Int) (i h n : Int) (hi : 0 ≤ i) (hl : l.length ≤ 4611686018427387904) : ∃ v i' h', spec_l1Below.f l i h n = some (v, i', h') ∧ 0 ≤ i' ∧ 0 ≤ v ∧ v ≤ 16777215 ∧ (0 < n → v < n) ∧ (n ≤ 0 → v = 0) := by
  unfold spec_l1Below.f
  by_cases h0 : n ≤ 0
  · rw [if_pos h0]; exact ⟨_, _, _, rfl, hi, by omega, by omega, by omega, by omega⟩
  rw [if_neg h0]
  by_cases h1 : n ≤ 256
  · rw [if_pos h1]
    obtain ⟨v, i1, g1, e, h2, h3, h4⟩ := spec_l1Byte_ok l i h hi hl
    rw [e]; simp only [Option.bind_some]
    rw [if_neg (by omega), Int.tmod_eq_emod_of_nonneg h3]
    have r0 : 0 ≤ v % n := Int.emod_nonneg _ (by omega)
    have r1 : v % n < n := Int.emod_lt_of_pos _ (by omega)
    exact ⟨_, _, _, rfl, h2, r0, by omega, fun _ => r1, by omega⟩
  · rw [if_neg h1]
    obtain ⟨v1, i1, g1, e1, a1, b1, c1⟩ := spec_l1Byte_ok l i h hi hl
    rw [e1]; simp only [Option.bind_some]
    obtain ⟨v2, i2, g2, e2, a2, b2, c2⟩ := spec_l1Byte_ok l i1 g1 a1 hl
    rw [e2]; simp only [Option.bind_some]
    obtain ⟨v3, i3, g3, e3, a3, b3, c3⟩ := spec_l1Byte_ok l i2 g2 a2 hl
    rw [e3]; simp only [Option.bind_some]
    rw [if_neg (by omega), w64 (n := v1 * 65536) (by omega) (by omega), w64 (n := v2 * 256) (by omega) (by omega), w64 (n := v1 * 65536 + v2 * 256) (by omega) (by omega), w64 (by omega) (by omega), Int.tmod_eq_emod_of_nonneg (by omega)]
    have r0 : 0 ≤ (v1 * 65536 + v2 * 256 + v3) % n := Int.emod_nonneg _ (by omega)
    have r1 : (v1 * 65536 + v2 * 256 + v3) % n < n := Int.emod_lt_of_pos _ (by omega)
    have r2 : (v1 * 65536 + v2 * 256 + v3) % n ≤ v1 * 65536 + v2 * 256 + v3 := by
      by_cases hlt : v1 * 65536 + v2 * 256 + v3 < n
      · rw [Int.emod_eq_of_lt (by omega) hlt]; omega
      · omega
    exact ⟨_, _, _, rfl, a3, r0, by omega, fun _ => r1, by omega⟩
theorem spec_l1Int_ok (l : List Int) (i h : Int) (s : List Int) (hs : 0 < s.length) (hi : 0 ≤ i) (hl : l.length ≤ 4611686018427387904) : ∃ v i' h', spec_l1Int.f l i h s = some (v, i', h') ∧ 0 ≤ i' ∧ v ∈ s := by
  unfold spec_l1Int.f
  obtain ⟨v, i1, g1, e, h2, h3, h4, h5, h6⟩ := spec_l1Below_ok l i h (s.length : Int) hi hl
  rw [e]; simp only [Option.bind_some]
  have h7 := h5 (by omega)
  obtain ⟨j, rfl⟩ := Int.eq_ofNat_of_zero_le h3
  rw [if_pos h3, if_pos h7, rd_at (show j < s.length by omega)]
  exact ⟨_, _, _, rfl, h2, List.getElem_mem _⟩
theorem spec_l1Once_ok (l : List Int) (i h n : Int) (hi : 0 ≤ i) (hl : l.length ≤ 4611686018427387904) : ∃ v i' h', spec_l1Once.f l i h n = some (v, i', h') ∧ 0 ≤ i' := by
  unfold spec_l1Once.f
  obtain ⟨v, i1, g1, e, h2, _⟩ := spec_l1Below_ok l i h n hi hl
  rw [e]; simp only [Option.bind_some]
  exact ⟨_, _, _, rfl, h2⟩
theorem spec_l4Element_ok {k : Nat} (hk : 64 ≤ k) (l : List Int) (i h : Int) (hi : 0 ≤ i) (hl : l.length ≤ 4611686018427387904) : ∃ v i' h', spec_l4Element.f k l i h = some (v, i', h') ∧ 0 ≤ i' := by
  unfold spec_l4Element.f
  obtain ⟨v, i1, g1, e, h2, h3, h4, h5, _⟩ := spec_l1Below_ok l i h 1019 hi hl
  rw [e]; simp only [Option.bind_some]
  rw [spec_l4Pow_eq hk (x := 4) 4 v.toNat rfl (by omega) (by omega) (by omega)]
  simp only [Option.bind_some]
  exact ⟨_, _, _, rfl, h2⟩
theorem spec_l4Any_ok {k : Nat} (hk : 64 ≤ k) (l : List Int) (i h : Int) (hi : 0 ≤ i) (hl : l.length ≤ 4611686018427387904) : ∃ v i' h', spec_l4Any.f k l i h = some (v, i', h') ∧ 0 ≤ i' := by
  unfold spec_l4Any.f
  obtain ⟨v, i1, g1, e, h2⟩ := spec_l1Once_ok l i h 5 hi hl
  rw [e]; simp only [Option.bind_some]
  cases v with
  | true =>
    rw [if_pos (by simp)]
    obtain ⟨v2, i2, g2, e2, h3, _⟩ := spec_l1Int_ok l i1 g1 [(-1), 0, 1, 2, 2038, 2039] (by simp) h2 hl
    rw [e2]; simp only [Option.bind_some]
    exact ⟨_, _, _, rfl, h3⟩
  | false =>
    rw [if_neg (by simp)]
    obtain ⟨v2, i2, g2, e2, h3⟩ := spec_l4Element_ok hk l i1 g1 h2 hl
    rw [e2]; simp only [Option.bind_some]
    exact ⟨_, _, _, rfl, h3⟩
theorem spec_l4Number_ok (l : List Int) (i h : Int) (hi : 0 ≤ i) (hl : l.length ≤ 4611686018427387904) : ∃ v i' h', spec_l4Number.f l i h = some (v, i', h') ∧ 0 ≤ i' := by
  unfold spec_l4Number.f
  obtain ⟨v, i1, g1, e, h2, _⟩ := spec_l1Below_ok l i h 1019 hi hl
  rw [e]; simp only [Option.bind_some]
  obtain ⟨v2, i2, g2, e2, h3, _⟩ := spec_l1Below_ok l i1 g1 1019 h2 hl
  rw [e2]; simp only [Option.bind_some]
  obtain ⟨v3, i3, g3, e3, h4, _⟩ := spec_l1Int_ok l i2 g2 [v, v2, (-1), 0, 1, 1018, 1019, 5000] (by simp) h3 hl
  rw [e3]; simp only [Option.bind_some]
  exact ⟨_, _, _, rfl, h4⟩
theorem spec_DrawPowGroup_ok {k : Nat} (l : List Int) (hl : l.length ≤ 1048576) (hk : 1048576 < k) : ∃ g n, spec_DrawPowGroup.f k l = some (g, n) := by
  unfold spec_DrawPowGroup.f
  obtain ⟨h, e⟩ := spec_l1New_ok (k := k) l (by omega) (by omega)
  rw [e]; simp only [Option.bind_some]
  obtain ⟨v1, i1, g1, e1, h1⟩ := spec_l4Any_ok (k := k) (by omega) l 0 h (by omega) (by omega)
  rw [e1]; simp only [Option.bind_some]
  obtain ⟨v2, i2, g2, e2, h2⟩ := spec_l4Number_ok l i1 g1 h1 (by omega)
  rw [e2]; simp only [Option.bind_some]
  exact ⟨_, _, rfl⟩
theorem laws_at_ok (l : List Int) (hb : ∀ x ∈ l, (Lit.int .u8 x).wf = true) (hl : l.length ≤ 1048576) (i : Int) (h0 : 0 ≤ i) (h1 : i ≤ 1048576) : ∃ v, laws_at.f l i = some v ∧ 0 ≤ v ∧ v ≤ 255 := by
  unfold laws_at.f
  by_cases h : i < (l.length : Int)
  · obtain ⟨j, rfl⟩ := Int.eq_ofNat_of_zero_le h0
    have hj : j < l.length := by omega
    have hv := wfb (hb _ (List.getElem_mem hj))
    rw [if_pos h, if_pos h0, rd_at hj, w64 (by omega) (by omega)]
    exact ⟨_, rfl, hv.1, hv.2⟩
  · rw [if_neg h, w64 (n := i * 31) (by omega) (by omega), w64 (n := (l.length : Int) * 7) (by omega) (by omega), w64 (by omega) (by omega), Int.tmod_eq_emod_of_nonneg (by omega)]
    exact ⟨_, rfl, by omega, by omega⟩
theorem spec_Mod_eq (a m : Int) (h1 : 1 ≤ m) (h2 : m ≤ 1000000000000) : spec_Mod.f a m = some (a % m) := by
  unfold spec_Mod.f
  rw [spec_l1In_eq]; simp only [Option.bind_some]
  rw [if_pos (by simp; omega), if_neg (by omega), tmod_fix h1 h2]
theorem spec_Mod_out (a m : Int) (h : ¬ (1 ≤ m ∧ m ≤ 1000000000000)) : spec_Mod.f a m = some 0 := by
  unfold spec_Mod.f
  rw [spec_l1In_eq]; simp only [Option.bind_some]
  rw [if_neg (by simpa using h)]
theorem proved : laws_FnGroup.Pure := by
  intro l0 _ _ hb
  obtain ⟨K, hK⟩ : ∃ K : Nat, 3000000 ≤ K := ⟨_, Nat.le_refl _⟩
  refine ⟨K, ?_⟩
  unfold laws_FnGroup.f
  rw [laws_big_eq]; simp only [Option.bind_some]
  by_cases hl : (l0.length : Int) > 1048576
  · rw [if_pos (by simpa using hl)]
  rw [if_neg (by simpa using hl)]
  obtain ⟨g, n, e⟩ := spec_DrawPowGroup_ok (k := K) l0 (by omega) (by omega)
  rw [e]; simp only [Option.bind_some]
  rw [spec_IsGroupElement_eq (by omega)]; simp only [Option.bind_some]
  by_cases hg : G g = true
  · rw [if_pos hg]
    obtain ⟨a0, ea0, ha0, ha1⟩ := laws_at_ok l0 hb (by omega) 0 (by omega) (by omega)
    obtain ⟨a1, ea1, hc0, hc1⟩ := laws_at_ok l0 hb (by omega) 1 (by omega) (by omega)
    have hj : ∀ b : Bool, b = false → laws_FnGroup.j0 K l0 g n (a0 * 5) (PG g n) b = some true := by
      intro b hb0
      subst hb0
      obtain ⟨k, rfl⟩ : ∃ j, K = j + 1 := ⟨K - 1, by omega⟩
      simp only [laws_FnGroup.j0]
      rw [if_neg (by simp), ea1]; simp only [Option.bind_some]
      rw [impl_HashToGroup_eq (by omega)]; simp only [Option.bind_some]
      have hne : (HG a1 (a0 * 5) != 1) = true := by simpa using HG_ne a1 (a0 * 5)
      by_cases h1 : g = 1
      · rw [if_pos h1, impl_IsGroupElement_eq (by omega), G_HG]; simp only [Option.bind_some]
        rw [if_pos (by simp), hne]
      · rw [if_neg h1, impl_DiscreteLog_PG (by omega) hg h1, spec_Mod_eq n 1019 (by omega) (by omega)]; simp only [Option.bind_some]
        rw [if_pos (by simp), impl_IsGroupElement_eq (by omega), G_HG]; simp only [Option.bind_some]
        rw [if_pos (by simp), hne]
    have m0 : 0 ≤ n % 1019 := Int.emod_nonneg _ (by omega)
    have m1 : n % 1019 < 1019 := Int.emod_lt_of_pos _ (by omega)
    rw [ea0]
    simp only [Option.bind_some, impl_PowGroup_eq (show 64 ≤ K by omega), impl_InverseExponent_eq (show 64 ≤ K by omega), impl_IsGroupElement_eq (show 64 ≤ K by omega), impl_MulGroup_eq (show 64 ≤ K by omega), spec_Mod_eq n 1019 (by decide) (by decide), w64 (n := a0 * 5) (by omega) (by omega), w64 (n := n % 1019 + a0 * 5) (by omega) (by omega)]
    rw [G_PG hg, if_pos (by simp), grp_add hg n (a0 * 5) (by omega), if_pos (by simp), inv_zero_iff, if_neg (by simp)]
    by_cases hi : IV n = 0
    · rw [if_pos hi]
      exact hj _ rfl
    · rw [if_neg hi]
      refine hj _ ?_
      rw [grp_inv hg n (fun h => hi (IV_zero h))]
      simp
  · rw [if_neg hg, impl_PowGroup_eq (by omega)]; simp only [Option.bind_some]
    unfold PG
    rw [if_neg hg, if_pos (by simp), impl_DiscreteLog_out (by omega) (by simpa using hg)]; simp only [Option.bind_some]
    rfl
end KFnGroup
theorem FnGroup : laws_FnGroup.Pure := KFnGroup.proved
end Go.Proofs.Ytgeokjhijihpaaa.Pure
