/- a blinded element fits every input of the function. -/
import Derived.Test.YtgeokjhijihpaaaPFnBlindingx2
import Derived.Test.YtgeokjhijihpaaaNum2
set_option linter.unusedVariables false
set_option linter.unusedSimpArgs false
namespace Go.Proofs.Ytgeokjhijihpaaa.Pure
open Go.RowKit Go.Proofs.Ytgeokjhijihpaaa.PFnBlinding Go.Proofs.YtgeokjhijihpaaaW.PrintWords Go.Proofs.YtgeokjhijihpaaaW.PrintLast Go.Proofs.Ytgeokjhijihpaaa.Num
namespace KFnBlinding
theorem laws_big_eq (l : List Int) : laws_big.f l = some (decide ((l.length : Int) > 1048576)) := rfl
theorem laws_at_ok (l : List Int) (hb : ∀ x ∈ l, (Lit.int .u8 x).wf = true) (hl : l.length ≤ 1048576) (i : Int) (h0 : 0 ≤ i) (h1 : i ≤ 1048576) : ∃ v, laws_at.f l i = some v ∧ 0 ≤ v ∧ v ≤ 255 := by
  unfold laws_at.f
  by_cases h : i < (l.length : Int)
  · obtain ⟨j, rfl⟩ := Int.eq_ofNat_of_zero_le h0
    have hj : j < l.length := by omega
    have hv := wfb (hb _ (List.getElem_mem hj))
    rw [if_pos h, if_pos h0, rd_at hj, w64 (by omega) (by omega)]
    exact ⟨_, rfl, hv.1, hv.2⟩
  · rw [if_neg h, w64 (n := i * 31) (by omega) (by omega), w64 (n := (l.length : Int) * 7) (by omega) (by omega), w64 (by omega) (by omega), Int.tmod_eq_emod_of_nonneg (by omega)]
    exact ⟨_, rfl, by omega, by omega⟩
theorem impl_InRange_eq (a b c : Int) : impl_InRange.f a b c = some (decide (b ≤ a ∧ a ≤ c)) := by
  unfold impl_InRange.f
  by_cases h : b ≤ a
  · rw [if_pos h]; simp [h]
  · rw [if_neg h]; simp [h]
theorem impl_power_l0 {m : Nat} (hm0 : 0 < m) (hm : m ≤ 2147483647) : ∀ (j k x n o : Nat), n < 2 ^ j → j ≤ 62 → j < k → x < m → o < m → impl_power.l0 k (x : Int) (n : Int) (m : Int) (o : Int) = some ((o * x ^ n % m : Nat) : Int) := by
  intro j
  induction j with
  | zero =>
    intro k x n o hn _ hk hx ho
    obtain ⟨k, rfl⟩ : ∃ m, k = m + 1 := ⟨k - 1, by omega⟩
    obtain rfl : n = 0 := by simpa using hn
    simp only [impl_power.l0]
    rw [if_neg (by omega), Nat.pow_zero, Nat.mul_one, Nat.mod_eq_of_lt ho]
  | succ j ih =>
    intro k x n o hn hj hk hx ho
    obtain ⟨k, rfl⟩ : ∃ m, k = m + 1 := ⟨k - 1, by omega⟩
    simp only [impl_power.l0]
    by_cases h0 : n = 0
    · subst h0
      rw [if_neg (by omega), Nat.pow_zero, Nat.mul_one, Nat.mod_eq_of_lt ho]
    · have hp : 2 ^ (j + 1) ≤ 2 ^ 62 := Nat.pow_le_pow_right (by omega) hj
      have hb : Int.tmod (n : Int) 2 = (n : Int) % 2 := Int.tmod_eq_emod_of_nonneg (by omega)
      have hd : wrap64 (Int.tdiv (n : Int) 2) = ((n / 2 : Nat) : Int) := by
        rw [Int.tdiv_eq_ediv_of_nonneg (by omega), w64 (by omega) (by omega)]; omega
      have hx2 : x * x % m < m := Nat.mod_lt _ (by omega)
      have hn2 : n / 2 < 2 ^ j := by rw [Nat.pow_succ] at hn; omega
      have ex : Int.tmod (wrap64 ((x : Int) * (x : Int))) (m : Int) = ((x * x % m : Nat) : Int) := tmodmul hx hx hm
      rw [if_pos (by omega), hb, hd, ex]
      by_cases h1 : n % 2 = 1
      · have eo : Int.tmod (wrap64 ((o : Int) * (x : Int))) (m : Int) = ((o * x % m : Nat) : Int) := tmodmul ho hx hm
        rw [if_pos (by omega), if_neg (by omega), eo, ih k _ _ _ hn2 (by omega) (by omega) hx2 (Nat.mod_lt _ (by omega)), pow_odd h1]
      · rw [if_neg (by omega), if_neg (by omega), ih k _ _ _ hn2 (by omega) (by omega) hx2 ho, pow_even (by omega)]
theorem impl_power_eq {k : Nat} (hk : 64 ≤ k) {x n m : Int} (X N M : Nat) (hx : x = X) (hn : n = N) (hm : m = M) (hM0 : 1 < M) (hM : M ≤ 2147483647) (hN : N < 4611686018427387904) : impl_power.f k x n m = some ((X ^ N % M : Nat) : Int) := by
  subst hx hn hm
  unfold impl_power.f
  have e : Int.tmod (X : Int) (M : Int) = ((X % M : Nat) : Int) := by
    rw [Int.tmod_eq_emod_of_nonneg (by omega)]; exact (Int.natCast_emod _ _).symm
  have e1 : (1 : Int) % (M : Int) = ((1 : Nat) : Int) := Int.emod_eq_of_lt (by omega) (by omega)
  have h := impl_power_l0 (by omega) hM 62 k (X % M) N 1 (by omega) (by omega) (by omega) (Nat.mod_lt _ (by omega)) (by omega)
  rw [Nat.one_mul, ← Nat.pow_mod] at h
  rw [if_neg (by omega), e, e1]
  exact h
theorem impl_IsGroupElement_eq {k : Nat} (hk : 64 ≤ k) (x : Int) : impl_IsGroupElement.f k x = some (G x) := by
  unfold impl_IsGroupElement.f
  rw [impl_InRange_eq]; simp only [Option.bind_some]
  by_cases h : 1 ≤ x ∧ x ≤ 2038
  · rw [if_pos (by simpa using h), impl_power_eq hk (n := 1019) (m := 2039) x.toNat ord 2039 (by omega) rfl rfl (by omega) (by omega) (by decide)]
    simp only [Option.bind_some]
    congr 1
    unfold G gel
    rw [Bool.eq_iff_iff]
    generalize x.toNat ^ ord % 2039 = z
    simp only [Bool.and_eq_true, decide_eq_true_eq, beq_iff_eq]
    omega
  · rw [if_neg (by simpa using h), G_out h]
theorem impl_Mod_eq {k : Nat} (hk : 0 < k) (a m : Int) (h1 : 1 ≤ m) (h2 : m ≤ 1000000000000) : impl_Mod.f k a m = some (a % m) := by
  obtain ⟨k, rfl⟩ : ∃ j, k = j + 1 := ⟨k - 1, by omega⟩
  unfold impl_Mod.f
  rw [if_neg (by omega)]
  simp only [impl_Mod.j0]
  rw [if_neg (by simp; omega), if_neg (by omega), tmod_two a m h1 h2]
theorem impl_Mod_out {k : Nat} (hk : 0 < k) (a m : Int) (h : ¬ (1 ≤ m ∧ m ≤ 1000000000000)) : impl_Mod.f k a m = some 0 := by
  obtain ⟨k, rfl⟩ : ∃ j, k = j + 1 := ⟨k - 1, by omega⟩
  unfold impl_Mod.f
  by_cases h1 : m < 1
  · rw [if_pos h1]
    simp only [impl_Mod.j0]
    rw [if_pos (by simp)]
  · rw [if_neg h1]
    simp only [impl_Mod.j0]
    rw [if_pos (by simp; omega)]
theorem impl_PowGroup_eq {k : Nat} (hk : 64 ≤ k) (g n : Int) : impl_PowGroup.f k g n = some (PG g n) := by
  unfold impl_PowGroup.f PG
  rw [impl_IsGroupElement_eq hk]; simp only [Option.bind_some]
  by_cases h : G g = true
  · have := G_elim h
    rw [if_pos h, if_pos h, impl_Mod_eq (by omega) n 1019 (by omega) (by omega)]; simp only [Option.bind_some]
    rw [impl_power_eq hk (m := 2039) g.toNat (n % 1019).toNat 2039 (by omega) (by omega) rfl (by omega) (by omega) (by omega)]; rfl
  · rw [if_neg h, if_neg h]
theorem impl_Hash_l0 (l : List Int) (hl : l.length ≤ 4611686018427387904) : ∀ (j k i : Nat) (d : Int), l.length - i ≤ j → j < k → 0 ≤ d → d < 2147483647 → impl_Hash.l0 k d l (l.length : Int) (i : Int) = some (Hs d (l.drop i)) := by
  intro j
  induction j with
  | zero =>
    intro k i d hi hk h0 h1
    obtain ⟨k, rfl⟩ : ∃ m, k = m + 1 := ⟨k - 1, by omega⟩
    simp only [impl_Hash.l0]
    rw [if_neg (by omega), List.drop_eq_nil_of_le (by omega)]; rfl
  | succ j ih =>
    intro k i d hi hk h0 h1
    obtain ⟨k, rfl⟩ : ∃ m, k = m + 1 := ⟨k - 1, by omega⟩
    simp only [impl_Hash.l0]
    by_cases h : i < l.length
    · rw [if_pos (by omega), if_pos (by omega), if_pos (by omega), impl_Mod_eq (by omega) _ 2147483647 (by omega) (by omega)]; simp only [Option.bind_some]
      rw [rd_at h, hstep_go h0 h1, nxt (by omega), ih k (i + 1) _ (by omega) (by omega) (hstep_range _ _).1 (hstep_range _ _).2, Hs_drop d h]
    · rw [if_neg (by omega), List.drop_eq_nil_of_le (by omega)]; rfl
theorem impl_Hash_eq {k : Nat} (l : List Int) (hl : l.length ≤ 4611686018427387904) (hk : l.length < k) : impl_Hash.f k l = some (Hs 11 l) := by
  unfold impl_Hash.f
  exact impl_Hash_l0 l hl l.length k 0 11 (by omega) hk (by omega) (by omega)
theorem impl_joined_l0 (L : List (List Int)) (hL : L.length ≤ 1000) : ∀ (j k i : Nat) (x : List Int), L.length - i ≤ j → j < k → (x ++ (L.drop i).flatten).length < 17592186044416 → impl_joined.l0 k x L (L.length : Int) (i : Int) = some (x ++ (L.drop i).flatten) := by
  intro j
  induction j with
  | zero =>
    intro k i x hi hk hx
    obtain ⟨k, rfl⟩ : ∃ m, k = m + 1 := ⟨k - 1, by omega⟩
    simp only [impl_joined.l0]
    rw [if_neg (by omega), List.drop_eq_nil_of_le (by omega)]; simp
  | succ j ih =>
    intro k i x hi hk hx
    obtain ⟨k, rfl⟩ : ∃ m, k = m + 1 := ⟨k - 1, by omega⟩
    simp only [impl_joined.l0]
    by_cases h : i < L.length
    · have e : rd_L2 L (i : Int) = L[i] := by
        unfold rd_L2
        simp [List.getD_eq_getElem?_getD, h]
      rw [List.drop_eq_getElem_cons h, List.flatten_cons, ← List.append_assoc] at hx ⊢
      have hx' : (x ++ L[i]).length < 17592186044416 := by
        rw [List.length_append] at hx; omega
      rw [if_pos (by omega), if_pos (by omega), if_pos (by omega), e, if_pos (by rw [← List.length_append]; exact hx'), nxt (by omega)]
      exact ih k (i + 1) _ (by omega) (by omega) hx
    · rw [if_neg (by omega), List.drop_eq_nil_of_le (by omega)]; simp
theorem impl_joined_eq {k : Nat} (x : List Int) (L : List (List Int)) (hL : L.length ≤ 1000) (hk : L.length < k) (h : (x ++ L.flatten).length < 17592186044416) : impl_joined.f k x L = some (x ++ L.flatten) := by
  unfold impl_joined.f
  simp only [Option.bind_some]
  rw [if_pos (by rw [List.length_append] at h; simp; omega), List.nil_append]
  exact impl_joined_l0 L hL L.length k 0 x (by omega) hk h
theorem impl_KeyedHash_eq {k : Nat} (a : Int) (l : List Int) (hl : l.length ≤ 1000000000000) (hk : l.length + 2 < k) : impl_KeyedHash.f k a l = some (KH a l) := by
  unfold impl_KeyedHash.f
  rw [impl_joined_eq _ _ (by simp) (by simp; omega) (by simp; omega)]; simp only [Option.bind_some]
  rw [impl_Hash_eq _ (by simp; omega) (by simp; omega)]
  simp only [Option.bind_some]
  congr 2
theorem impl_HashToGroup_eq {k : Nat} (hk : 64 ≤ k) (a b : Int) : impl_HashToGroup.f k a b = some (HG a b) := by
  unfold impl_HashToGroup.f
  rw [impl_KeyedHash_eq _ _ (by simp) (by simp; omega)]; simp only [Option.bind_some]
  rw [impl_PowGroup_eq hk, hsq (KH_range _ _).1 (KH_range _ _).2]; rfl
theorem impl_BlindInput_eq {k : Nat} (hk : 64 ≤ k) (a b n : Int) : impl_BlindInput.f k a b n = some (if n % 1019 = 0 then 0 else PG (HG a b) n) := by
  unfold impl_BlindInput.f
  rw [impl_Mod_eq (by omega) n 1019 (by omega) (by omega)]; simp only [Option.bind_some]
  by_cases h : n % 1019 = 0
  · rw [if_pos h, if_pos h]
  · rw [if_neg h, if_neg h, impl_HashToGroup_eq hk]; simp only [Option.bind_some]
    rw [impl_PowGroup_eq hk]; simp only [Option.bind_some]
theorem impl_ExplainBlinded_l0 {k0 : Nat} (a b e : Int) {m : Nat} (hm1 : 1 ≤ m) (hm : m < 1019) (he : PG (HG a b) (m : Int) = e) : ∀ (d k i : Nat), m - i = d → 1 ≤ i → i ≤ m → d + 100 < k → ∃ n, impl_ExplainBlinded.l0 k e a b (i : Int) = some (n, true) ∧ 1 ≤ n ∧ n < 1019 ∧ PG (HG a b) n = e := by
  intro d
  induction d with
  | zero =>
    intro k i hd h1 h2 hk
    obtain ⟨k, rfl⟩ : ∃ j, k = j + 1 := ⟨k - 1, by omega⟩
    obtain rfl : i = m := by omega
    simp only [impl_ExplainBlinded.l0]
    rw [if_pos (by omega), impl_BlindInput_eq (by omega), if_neg (by omega)]; simp only [Option.bind_some]
    rw [if_pos he]
    exact ⟨_, rfl, by omega, by omega, he⟩
  | succ d ih =>
    intro k i hd h1 h2 hk
    obtain ⟨k, rfl⟩ : ∃ j, k = j + 1 := ⟨k - 1, by omega⟩
    simp only [impl_ExplainBlinded.l0]
    rw [if_pos (by omega), impl_BlindInput_eq (by omega), if_neg (by omega)]; simp only [Option.bind_some]
    by_cases h : PG (HG a b) (i : Int) = e
    · rw [if_pos h]
      exact ⟨_, rfl, by omega, by omega, h⟩
    · rw [if_neg h, nxt (by omega)]
      exact ih k (i + 1) (by omega) (by omega) (by omega) (by omega)
theorem impl_ExplainBlinded_ok {k : Nat} (hk : 1200 ≤ k) (a b e : Int) (h : ∃ m : Nat, 1 ≤ m ∧ m < 1019 ∧ PG (HG a b) (m : Int) = e) : ∃ n, impl_ExplainBlinded.f k e a b = some (n, true) ∧ 1 ≤ n ∧ n < 1019 ∧ PG (HG a b) n = e := by
  obtain ⟨m, h1, h2, h3⟩ := h
  unfold impl_ExplainBlinded.f
  exact impl_ExplainBlinded_l0 (k0 := 0) a b e h1 h2 h3 (m - 1) k 1 rfl (by omega) h1 (by omega)
theorem impl_EvaluateShare_eq {k : Nat} (hk : 64 ≤ k) (i v e : Int) : impl_EvaluateShare.f k i v e = some (if G e = true ∧ e ≠ 1 ∧ 0 ≤ v ∧ v ≤ 1018 then PG e v else 0) := by
  unfold impl_EvaluateShare.f
  rw [impl_IsGroupElement_eq hk]; simp only [Option.bind_some]
  by_cases h : G e = true
  · rw [if_pos h]
    by_cases h1 : e = 1
    · rw [if_pos h1, if_neg (fun h2 => h2.2.1 h1)]
    · rw [if_neg h1, impl_InRange_eq]; simp only [Option.bind_some]
      by_cases h2 : 0 ≤ v ∧ v ≤ 1018
      · rw [if_pos (by simpa using h2), if_pos ⟨h, h1, h2⟩, impl_PowGroup_eq hk]; rfl
      · rw [if_neg (by simpa using h2), if_neg (fun h3 => h2 h3.2.2)]
  · rw [if_neg h, if_neg (fun h2 => h h2.1)]
theorem rounds (l0 : List Int) (hb : ∀ x ∈ l0, (Lit.int .u8 x).wf = true) (hl : l0.length ≤ 1048576) (a0 : Int) (e0 : laws_at.f l0 0 = some a0) (a1 n : Int) (hn : n % 1019 ≠ 0) :
    ∀ (d k i : Nat), 5 - i = d → i ≤ 5 → d + 2000 < k → laws_FnBlinding.l0 k l0 (PG (HG a0 a1) n) (i : Int) = some true := by
  intro d
  induction d with
  | zero =>
    intro k i hd hi hk
    obtain ⟨k, rfl⟩ : ∃ j, k = j + 1 := ⟨k - 1, by omega⟩
    simp only [laws_FnBlinding.l0]
    rw [if_neg (by omega), impl_BlindInput_eq (by omega), if_pos (by decide)]; simp only [Option.bind_some]
    rw [if_pos (by simp), impl_EvaluateShare_eq (by omega)]; simp
  | succ d ih =>
    intro k i hd hi hk
    obtain ⟨k, rfl⟩ : ∃ j, k = j + 1 := ⟨k - 1, by omega⟩
    obtain ⟨v, ev, v0, v1⟩ := laws_at_ok l0 hb hl (3 + (i : Int)) (by omega) (by omega)
    obtain ⟨m, em, m0, m1, hm⟩ := impl_ExplainBlinded_ok (k := k) (by omega) a0 (v * 9) _ (HG_other a0 (v * 9) a0 a1 n hn)
    simp only [laws_FnBlinding.l0]
    rw [if_pos (by omega)]
    simp only [e0, w64 (n := 3 + (i : Int)) (by omega) (by omega), ev, w64 (n := v * 9) (by omega) (by omega), em, Option.bind_some]
    rw [if_pos (by simp), impl_BlindInput_eq (by omega), if_neg (by omega)]; simp only [Option.bind_some]
    rw [if_pos hm, nxt (by omega)]
    exact ih k (i + 1) (by omega) (by omega) (by omega)
theorem proved : laws_FnBlinding.Pure := by
  intro l0 _ _ hb
  obtain ⟨K, hK⟩ : ∃ K : Nat, 3000000 ≤ K := ⟨_, Nat.le_refl _⟩
  refine ⟨K, ?_⟩
  unfold laws_FnBlinding.f
  rw [laws_big_eq]; simp only [Option.bind_some]
  by_cases hl : (l0.length : Int) > 1048576
  · rw [if_pos (by simpa using hl)]
  rw [if_neg (by simpa using hl)]
  obtain ⟨a0, e0, b0, c0⟩ := laws_at_ok l0 hb (by omega) 0 (by omega) (by omega)
  obtain ⟨a1, e1, b1, c1⟩ := laws_at_ok l0 hb (by omega) 1 (by omega) (by omega)
  obtain ⟨a2, e2, b2, c2⟩ := laws_at_ok l0 hb (by omega) 2 (by omega) (by omega)
  simp only [e0, e1, e2, Option.bind_some, impl_BlindInput_eq (show 64 ≤ K by omega), w64 (n := 1 + a2) (by omega) (by omega)]
  rw [if_neg (by omega)]
  exact rounds l0 hb (by omega) a0 e0 a1 (1 + a2) (by omega) 5 K 0 (by omega) (by omega) (by omega)
end KFnBlinding
theorem FnBlinding : laws_FnBlinding.Pure := KFnBlinding.proved
end Go.Proofs.Ytgeokjhijihpaaa.Pure
