/- the program's VerifySignature answers as the reference's and leaves its arguments alone. -/
import Derived.Test.YtgaodlegjpbcaaaPFnExactVerifySignaturex2
import Derived.Test.YtgaodlegjpbcaaaNum3
set_option linter.unusedVariables false
set_option linter.unusedSimpArgs false
namespace Go.Proofs.Ytgaodlegjpbcaaa.Pure
open Go.RowKit Go.Proofs.Ytgaodlegjpbcaaa.PFnExactVerifySignature Go.Proofs.YtgaodlegjpbcaaaW.PrintWords Go.Proofs.YtgaodlegjpbcaaaW.PrintLast Go.Proofs.Ytgaodlegjpbcaaa.Num
namespace KFnExactVerifySignature
theorem laws_toIntS_l0 (l : List Int) (hl : l.length ≤ 4611686018427387904) : ∀ (j k i : Nat) (x : List Int), l.length - i ≤ j → j < k → x.length = l.length → (∀ p, p < i → x[p]? = l[p]?) → laws_toIntS.l0 k l x (i : Int) = some l := by
  intro j
  induction j with
  | zero =>
    intro k i x hi hk hx hp
    obtain ⟨k, rfl⟩ : ∃ m, k = m + 1 := ⟨k - 1, by omega⟩
    simp only [laws_toIntS.l0]
    rw [if_neg (by omega)]
    congr 1
    apply List.ext_getElem?
    intro p
    by_cases h : p < i
    · exact hp p h
    · rw [List.getElem?_eq_none (by omega), List.getElem?_eq_none (by omega)]
  | succ j ih =>
    intro k i x hi hk hx hp
    obtain ⟨k, rfl⟩ : ∃ m, k = m + 1 := ⟨k - 1, by omega⟩
    simp only [laws_toIntS.l0]
    by_cases h : i < l.length
    · rw [if_pos (by omega), if_pos (by omega), if_pos (by omega), nxt (by omega), rd_at h]
      refine ih k (i + 1) _ (by omega) (by omega) (by rw [List.length_set]; exact hx) (fun p hpi => ?_)
      rw [show ((i : Int)).toNat = i from rfl, List.getElem?_set]
      by_cases e : i = p
      · subst e
        rw [if_pos (by simp), if_pos (by omega), List.getElem?_eq_getElem h]
      · rw [if_neg e]
        exact hp p (by omega)
    · rw [if_neg (by omega)]
      congr 1
      apply List.ext_getElem?
      intro p
      by_cases h : p < i
      · exact hp p h
      · rw [List.getElem?_eq_none (by omega), List.getElem?_eq_none (by omega)]
theorem laws_toIntS_eq {k : Nat} (l : List Int) (hl : l.length ≤ 1048576) (hk : 1048576 < k) : laws_toIntS.f k l = some l := by
  unfold laws_toIntS.f
  rw [if_pos (by omega), if_pos (by omega)]
  exact laws_toIntS_l0 l (by omega) l.length k 0 _ (by omega) (by omega) (by simp) (fun p hp => by omega)
theorem laws_eqIntS_l0 (a b : List Int) (hl : a.length = b.length) (hm : a.length ≤ 4611686018427387904) : ∀ (j k i : Nat), a.length - i ≤ j → j < k → laws_eqIntS.l0 k a b (i : Int) = some (decide (a.drop i = b.drop i)) := by
  intro j
  induction j with
  | zero =>
    intro k i hi hk
    obtain ⟨k, rfl⟩ : ∃ m, k = m + 1 := ⟨k - 1, by omega⟩
    simp only [laws_eqIntS.l0]
    rw [if_neg (by omega), List.drop_eq_nil_of_le (by omega), List.drop_eq_nil_of_le (by omega)]; simp
  | succ j ih =>
    intro k i hi hk
    obtain ⟨k, rfl⟩ : ∃ m, k = m + 1 := ⟨k - 1, by omega⟩
    simp only [laws_eqIntS.l0]
    by_cases h : i < a.length
    · have hb : i < b.length := by omega
      rw [if_pos (by omega), if_pos (by omega), if_pos (by omega), nxt (by omega), rd_at h, rd_at hb, ih k (i + 1) (by omega) (by omega), List.drop_eq_getElem_cons h, List.drop_eq_getElem_cons hb]
      by_cases e : a[i] = b[i]
      · rw [if_pos e]; congr 1; rw [decide_eq_decide]; exact ⟨fun h1 => by rw [e, h1], fun h1 => (List.cons.inj h1).2⟩
      · rw [if_neg e]; congr 1; symm; rw [decide_eq_false_iff_not]; exact fun h1 => e (List.cons.inj h1).1
    · rw [if_neg (by omega), List.drop_eq_nil_of_le (by omega), List.drop_eq_nil_of_le (by omega)]; simp
theorem laws_eqIntS_eq {k : Nat} (a b : List Int) (hm : a.length ≤ 4611686018427387904) (hk : a.length < k) : laws_eqIntS.f k a b = some (decide (a = b)) := by
  unfold laws_eqIntS.f
  by_cases h : a.length = b.length
  · rw [if_pos (by omega)]
    exact laws_eqIntS_l0 a b h hm a.length k 0 (by omega) hk
  · rw [if_neg (by omega)]
    have : a ≠ b := fun e => h (by rw [e])
    simp [this]
theorem laws_eqIntS_self {k : Nat} (a : List Int) (hm : a.length ≤ 1048576) (hk : 1048576 < k) : laws_eqIntS.f k a a = some true := by
  rw [laws_eqIntS_eq a a (by omega) (by omega)]; simp
theorem spec_l1In_eq (a b c : Int) : spec_l1In.f a b c = some (decide (b ≤ a ∧ a ≤ c)) := by
  unfold spec_l1In.f
  by_cases h : b ≤ a
  · rw [if_pos h]; simp [h]
  · rw [if_neg (by omega)]; simp [h]
theorem spec_IsValidKey_eq (a : Int) : spec_IsValidKey.f a = some (decide (1 ≤ a ∧ a ≤ 2147483646)) := by
  unfold spec_IsValidKey.f
  rw [spec_l1In_eq]; rfl
theorem spec_PublicKey_eq (a : Int) : spec_PublicKey.f a = some (PK a) := by
  unfold spec_PublicKey.f PK
  rw [spec_IsValidKey_eq]; simp only [Option.bind_some]
  by_cases h : 1 ≤ a ∧ a ≤ 2147483646
  · rw [if_pos (by simpa using h), if_pos h, w64 (by omega) (by omega), Int.tmod_eq_emod_of_nonneg (by omega)]
  · rw [if_neg (by simpa using h), if_neg h]
theorem spec_l6Power_l0 : ∀ (j k x n o : Nat), n < 2 ^ j → j ≤ 62 → j < k → x < 2147483647 → o < 2147483647 → spec_l6Power.l0 k (x : Int) (n : Int) (o : Int) = some ((fp 2147483647 j x n o : Nat) : Int) := by
  intro j
  induction j with
  | zero =>
    intro k x n o hn _ hk hx ho
    obtain ⟨k, rfl⟩ : ∃ m, k = m + 1 := ⟨k - 1, by omega⟩
    obtain rfl : n = 0 := by simpa using hn
    simp only [spec_l6Power.l0]
    rw [if_neg (by omega)]; rfl
  | succ j ih =>
    intro k x n o hn hj hk hx ho
    obtain ⟨k, rfl⟩ : ∃ m, k = m + 1 := ⟨k - 1, by omega⟩
    simp only [spec_l6Power.l0, fp]
    by_cases h0 : n = 0
    · subst h0
      rw [if_neg (by omega), if_pos rfl]
    · have hp : 2 ^ (j + 1) ≤ 2 ^ 62 := Nat.pow_le_pow_right (by omega) hj
      have hb : Go.bits .and .i64 (n : Int) 1 = (n : Int) % 2 := and1 (by omega) (by omega)
      have hd : (n : Int) / 2 = ((n / 2 : Nat) : Int) := by omega
      have hx2 : x * x % 2147483647 < 2147483647 := Nat.mod_lt _ (by omega)
      have hn2 : n / 2 < 2 ^ j := by rw [Nat.pow_succ] at hn; omega
      have ex : Int.tmod (wrap64 ((x : Int) * (x : Int))) 2147483647 = ((x * x % 2147483647 : Nat) : Int) := tmodmul (m := 2147483647) hx hx (by omega)
      rw [if_pos (by omega), hb, hd, ex, if_neg h0]
      by_cases h1 : n % 2 = 1
      · have eo : Int.tmod (wrap64 ((o : Int) * (x : Int))) 2147483647 = ((o * x % 2147483647 : Nat) : Int) := tmodmul (m := 2147483647) ho hx (by omega)
        rw [if_pos (by omega), if_pos h1, eo, ih k _ _ _ hn2 (by omega) (by omega) hx2 (Nat.mod_lt _ (by omega))]
      · rw [if_neg (by omega), if_neg h1, ih k _ _ _ hn2 (by omega) (by omega) hx2 ho]
theorem spec_l6Power_key {k : Nat} (hk : 64 ≤ k) : spec_l6Power.f k 48271 2147483645 = some 1899818559 := by
  unfold spec_l6Power.f
  have h := spec_l6Power_l0 62 k 48271 2147483645 1 (by decide) (by omega) (by omega) (by omega) (by omega)
  rw [fp_key] at h
  exact h
theorem spec_PrivateKey_eq {k : Nat} (hk : 64 ≤ k) (a : Int) : spec_PrivateKey.f k a = some (VK a) := by
  unfold spec_PrivateKey.f VK
  rw [spec_l1In_eq]; simp only [Option.bind_some]
  by_cases h : 1 ≤ a ∧ a ≤ 2147483646
  · rw [if_pos (by simpa using h), if_pos h, spec_l6Power_key hk]; simp only [Option.bind_some]
    rw [w64 (by omega) (by omega), Int.tmod_eq_emod_of_nonneg (by omega), spec_PublicKey_eq, PK_VK h]; simp only [Option.bind_some]
    rw [if_pos (by simp)]
  · rw [if_neg (by simpa using h), if_neg h]
theorem spec_Mod_eq (a m : Int) (h1 : 1 ≤ m) (h2 : m ≤ 1000000000000) : spec_Mod.f a m = some (a % m) := by
  unfold spec_Mod.f
  rw [spec_l1In_eq]; simp only [Option.bind_some]
  rw [if_pos (by simp; omega), if_neg (by omega), tmod_fix h1 h2]
theorem spec_Mod_out (a m : Int) (h : ¬ (1 ≤ m ∧ m ≤ 1000000000000)) : spec_Mod.f a m = some 0 := by
  unfold spec_Mod.f
  rw [spec_l1In_eq]; simp only [Option.bind_some]
  rw [if_neg (by simpa using h)]
theorem spec_Hash_l0 (l : List Int) (hl : l.length ≤ 4611686018427387904) : ∀ (j k i : Nat) (d : Int), l.length - i ≤ j → j < k → 0 ≤ d → d < 2147483647 → spec_Hash.l0 k l d (i : Int) = some (Hs d (l.drop i)) := by
  intro j
  induction j with
  | zero =>
    intro k i d hi hk h0 h1
    obtain ⟨k, rfl⟩ : ∃ m, k = m + 1 := ⟨k - 1, by omega⟩
    simp only [spec_Hash.l0]
    rw [if_neg (by omega), List.drop_eq_nil_of_le (by omega)]; rfl
  | succ j ih =>
    intro k i d hi hk h0 h1
    obtain ⟨k, rfl⟩ : ∃ m, k = m + 1 := ⟨k - 1, by omega⟩
    simp only [spec_Hash.l0]
    by_cases h : i < l.length
    · rw [if_pos (by omega), if_pos (by omega), spec_Mod_eq _ 2147483647 (by omega) (by omega)]; simp only [Option.bind_some]
      rw [rd_at h, hstep_go h0 h1, nxt (by omega), ih k (i + 1) _ (by omega) (by omega) (hstep_range _ _).1 (hstep_range _ _).2, Hs_drop d h]
    · rw [if_neg (by omega), List.drop_eq_nil_of_le (by omega)]; rfl
theorem spec_Hash_eq {k : Nat} (l : List Int) (hl : l.length ≤ 4611686018427387904) (hk : l.length < k) : spec_Hash.f k l = some (Hs 11 l) := by
  unfold spec_Hash.f
  exact spec_Hash_l0 l hl l.length k 0 11 (by omega) hk (by omega) (by omega)
theorem spec_KeyedHash_eq {k : Nat} (a : Int) (l : List Int) (hl : l.length ≤ 1000000000000) (hk : l.length + 2 < k) : spec_KeyedHash.f k a l = some (KH a l) := by
  unfold spec_KeyedHash.f
  simp only [Option.bind_some]
  rw [if_pos (by simp; omega), if_pos (by simp; omega), spec_Hash_eq _ (by simp; omega) (by simp; omega)]; rfl
theorem spec_SignMessage_eq {k : Nat} (a : Int) (m : List Int) (hm : m.length ≤ 1000000000) (hk : m.length + 10 < k) : spec_SignMessage.f k a m = some (SM a m) := by
  unfold spec_SignMessage.f SM
  rw [spec_IsValidKey_eq]; simp only [Option.bind_some]
  by_cases h : 1 ≤ a ∧ a ≤ 2147483646
  · rw [if_pos (by simpa using h), if_pos h, if_pos (by simp; omega), spec_KeyedHash_eq _ _ (by simp; omega) (by simp; omega)]; rfl
  · rw [if_neg (by simpa using h), if_neg h]
theorem spec_VerifySignature_eq {k : Nat} (a : Int) (m : List Int) (s : Int) (hm : m.length ≤ 1000000000) (hk : m.length + 100 < k) : spec_VerifySignature.f k a m s = some (if VK a = 0 then false else SM (VK a) m == s) := by
  unfold spec_VerifySignature.f
  rw [spec_PrivateKey_eq (by omega)]; simp only [Option.bind_some]
  by_cases h : VK a = 0
  · rw [if_pos h, if_pos h]
  · rw [if_neg h, if_neg h, spec_SignMessage_eq _ _ hm (by omega)]; rfl
theorem impl_InRange_eq (a b c : Int) : impl_InRange.f a b c = some (decide (b ≤ a ∧ a ≤ c)) := by
  unfold impl_InRange.f
  by_cases h : b ≤ a
  · rw [if_pos h]; simp [h]
  · rw [if_neg h]; simp [h]
theorem impl_IsValidKey_eq (a : Int) : impl_IsValidKey.f a = some (decide (1 ≤ a ∧ a ≤ 2147483646)) := by
  unfold impl_IsValidKey.f
  rw [impl_InRange_eq]; rfl
theorem impl_power_l0 {m : Nat} (hm0 : 0 < m) (hm : m ≤ 2147483647) : ∀ (j k x n o : Nat), n < 2 ^ j → j ≤ 62 → j < k → x < m → o < m → impl_power.l0 k (x : Int) (n : Int) (m : Int) (o : Int) = some ((o * x ^ n % m : Nat) : Int) := by
  intro j
  induction j with
  | zero =>
    intro k x n o hn _ hk hx ho
    obtain ⟨k, rfl⟩ : ∃ m, k = m + 1 := ⟨k - 1, by omega⟩
    obtain rfl : n = 0 := by simpa using hn
    simp only [impl_power.l0]
    rw [if_neg (by omega), Nat.pow_zero, Nat.mul_one, Nat.mod_eq_of_lt ho]
  | succ j ih =>
    intro k x n o hn hj hk hx ho
    obtain ⟨k, rfl⟩ : ∃ m, k = m + 1 := ⟨k - 1, by omega⟩
    simp only [impl_power.l0]
    by_cases h0 : n = 0
    · subst h0
      rw [if_neg (by omega), Nat.pow_zero, Nat.mul_one, Nat.mod_eq_of_lt ho]
    · have hp : 2 ^ (j + 1) ≤ 2 ^ 62 := Nat.pow_le_pow_right (by omega) hj
      have hb : Int.tmod (n : Int) 2 = (n : Int) % 2 := Int.tmod_eq_emod_of_nonneg (by omega)
      have hd : wrap64 (Int.tdiv (n : Int) 2) = ((n / 2 : Nat) : Int) := by
        rw [Int.tdiv_eq_ediv_of_nonneg (by omega), w64 (by omega) (by omega)]; omega
      have hx2 : x * x % m < m := Nat.mod_lt _ (by omega)
      have hn2 : n / 2 < 2 ^ j := by rw [Nat.pow_succ] at hn; omega
      have ex : Int.tmod (wrap64 ((x : Int) * (x : Int))) (m : Int) = ((x * x % m : Nat) : Int) := tmodmul hx hx hm
      rw [if_pos (by omega), hb, hd, ex]
      by_cases h1 : n % 2 = 1
      · have eo : Int.tmod (wrap64 ((o : Int) * (x : Int))) (m : Int) = ((o * x % m : Nat) : Int) := tmodmul ho hx hm
        rw [if_pos (by omega), if_neg (by omega), eo, ih k _ _ _ hn2 (by omega) (by omega) hx2 (Nat.mod_lt _ (by omega)), pow_odd h1]
      · rw [if_neg (by omega), if_neg (by omega), ih k _ _ _ hn2 (by omega) (by omega) hx2 ho, pow_even (by omega)]
theorem impl_power_eq {k : Nat} (hk : 64 ≤ k) {x n m : Int} (X N M : Nat) (hx : x = X) (hn : n = N) (hm : m = M) (hM0 : 1 < M) (hM : M ≤ 2147483647) (hN : N < 4611686018427387904) : impl_power.f k x n m = some ((X ^ N % M : Nat) : Int) := by
  subst hx hn hm
  unfold impl_power.f
  have e : Int.tmod (X : Int) (M : Int) = ((X % M : Nat) : Int) := by
    rw [Int.tmod_eq_emod_of_nonneg (by omega)]; exact (Int.natCast_emod _ _).symm
  have e1 : (1 : Int) % (M : Int) = ((1 : Nat) : Int) := Int.emod_eq_of_lt (by omega) (by omega)
  have h := impl_power_l0 (by omega) hM 62 k (X % M) N 1 (by omega) (by omega) (by omega) (Nat.mod_lt _ (by omega)) (by omega)
  rw [Nat.one_mul, ← Nat.pow_mod] at h
  rw [if_neg (by omega), e, e1]
  exact h
theorem impl_power_fp : ∀ (j k x n o : Nat), n < 2 ^ j → j ≤ 62 → j < k → x < 2147483647 → o < 2147483647 → impl_power.l0 k (x : Int) (n : Int) 2147483647 (o : Int) = some ((fp 2147483647 j x n o : Nat) : Int) := by
  intro j
  induction j with
  | zero =>
    intro k x n o hn _ hk hx ho
    obtain ⟨k, rfl⟩ : ∃ m, k = m + 1 := ⟨k - 1, by omega⟩
    obtain rfl : n = 0 := by simpa using hn
    simp only [impl_power.l0]
    rw [if_neg (by omega)]; rfl
  | succ j ih =>
    intro k x n o hn hj hk hx ho
    obtain ⟨k, rfl⟩ : ∃ m, k = m + 1 := ⟨k - 1, by omega⟩
    simp only [impl_power.l0, fp]
    by_cases h0 : n = 0
    · subst h0
      rw [if_neg (by omega), if_pos rfl]
    · have hp : 2 ^ (j + 1) ≤ 2 ^ 62 := Nat.pow_le_pow_right (by omega) hj
      have hb : Int.tmod (n : Int) 2 = (n : Int) % 2 := Int.tmod_eq_emod_of_nonneg (by omega)
      have hd : wrap64 (Int.tdiv (n : Int) 2) = ((n / 2 : Nat) : Int) := by
        rw [Int.tdiv_eq_ediv_of_nonneg (by omega), w64 (by omega) (by omega)]; omega
      have hx2 : x * x % 2147483647 < 2147483647 := Nat.mod_lt _ (by omega)
      have hn2 : n / 2 < 2 ^ j := by rw [Nat.pow_succ] at hn; omega
      have ex : Int.tmod (wrap64 ((x : Int) * (x : Int))) 2147483647 = ((x * x % 2147483647 : Nat) : Int) := tmodmul (m := 2147483647) hx hx (by omega)
      rw [if_pos (by omega), hb, hd, ex, if_neg h0]
      by_cases h1 : n % 2 = 1
      · have eo : Int.tmod (wrap64 ((o : Int) * (x : Int))) 2147483647 = ((o * x % 2147483647 : Nat) : Int) := tmodmul (m := 2147483647) ho hx (by omega)
        rw [if_pos (by omega), if_neg (by omega), if_pos h1, eo, ih k _ _ _ hn2 (by omega) (by omega) hx2 (Nat.mod_lt _ (by omega))]
      · rw [if_neg (by omega), if_neg (by omega), if_neg h1, ih k _ _ _ hn2 (by omega) (by omega) hx2 ho]
theorem impl_power_key {k : Nat} (hk : 64 ≤ k) : impl_power.f k 48271 2147483645 2147483647 = some 1899818559 := by
  unfold impl_power.f
  have h := impl_power_fp 62 k 48271 2147483645 1 (by decide) (by omega) (by omega) (by omega) (by omega)
  rw [fp_key] at h
  rw [if_neg (by omega)]
  exact h
theorem impl_PrivateKey_eq {k : Nat} (hk : 64 ≤ k) (a : Int) : impl_PrivateKey.f k a = some (VK a) := by
  unfold impl_PrivateKey.f VK
  rw [impl_IsValidKey_eq]; simp only [Option.bind_some]
  by_cases h : 1 ≤ a ∧ a ≤ 2147483646
  · rw [if_pos (by simpa using h), if_pos h, impl_power_key hk]; simp only [Option.bind_some]
    rw [w64 (by omega) (by omega), Int.tmod_eq_emod_of_nonneg (by omega)]
  · rw [if_neg (by simpa using h), if_neg h]
theorem impl_Mod_eq {k : Nat} (hk : 0 < k) (a m : Int) (h1 : 1 ≤ m) (h2 : m ≤ 1000000000000) : impl_Mod.f k a m = some (a % m) := by
  obtain ⟨k, rfl⟩ : ∃ j, k = j + 1 := ⟨k - 1, by omega⟩
  unfold impl_Mod.f
  rw [if_neg (by omega)]
  simp only [impl_Mod.j0]
  rw [if_neg (by simp; omega), if_neg (by omega), tmod_two a m h1 h2]
theorem impl_Mod_out {k : Nat} (hk : 0 < k) (a m : Int) (h : ¬ (1 ≤ m ∧ m ≤ 1000000000000)) : impl_Mod.f k a m = some 0 := by
  obtain ⟨k, rfl⟩ : ∃ j, k = j + 1 := ⟨k - 1, by omega⟩
  unfold impl_Mod.f
  by_cases h1 : m < 1
  · rw [if_pos h1]
    simp only [impl_Mod.j0]
    rw [if_pos (by simp)]
  · rw [if_neg h1]
    simp only [impl_Mod.j0]
    rw [if_pos (by simp; omega)]
theorem impl_Hash_l0 (l : List Int) (hl : l.length ≤ 4611686018427387904) : ∀ (j k i : Nat) (d : Int), l.length - i ≤ j → j < k → 0 ≤ d → d < 2147483647 → impl_Hash.l0 k d l (l.length : Int) (i : Int) = some (Hs d (l.drop i)) := by
  intro j
  induction j with
  | zero =>
    intro k i d hi hk h0 h1
    obtain ⟨k, rfl⟩ : ∃ m, k = m + 1 := ⟨k - 1, by omega⟩
    simp only [impl_Hash.l0]
    rw [if_neg (by omega), List.drop_eq_nil_of_le (by omega)]; rfl
  | succ j ih =>
    intro k i d hi hk h0 h1
    obtain ⟨k, rfl⟩ : ∃ m, k = m + 1 := ⟨k - 1, by omega⟩
    simp only [impl_Hash.l0]
    by_cases h : i < l.length
    · rw [if_pos (by omega), if_pos (by omega), if_pos (by omega), impl_Mod_eq (by omega) _ 2147483647 (by omega) (by omega)]; simp only [Option.bind_some]
      rw [rd_at h, hstep_go h0 h1, nxt (by omega), ih k (i + 1) _ (by omega) (by omega) (hstep_range _ _).1 (hstep_range _ _).2, Hs_drop d h]
    · rw [if_neg (by omega), List.drop_eq_nil_of_le (by omega)]; rfl
theorem impl_Hash_eq {k : Nat} (l : List Int) (hl : l.length ≤ 4611686018427387904) (hk : l.length < k) : impl_Hash.f k l = some (Hs 11 l) := by
  unfold impl_Hash.f
  exact impl_Hash_l0 l hl l.length k 0 11 (by omega) hk (by omega) (by omega)
theorem impl_joined_l0 (L : List (List Int)) (hL : L.length ≤ 1000) : ∀ (j k i : Nat) (x : List Int), L.length - i ≤ j → j < k → (x ++ (L.drop i).flatten).length < 17592186044416 → impl_joined.l0 k x L (L.length : Int) (i : Int) = some (x ++ (L.drop i).flatten) := by
  intro j
  induction j with
  | zero =>
    intro k i x hi hk hx
    obtain ⟨k, rfl⟩ : ∃ m, k = m + 1 := ⟨k - 1, by omega⟩
    simp only [impl_joined.l0]
    rw [if_neg (by omega), List.drop_eq_nil_of_le (by omega)]; simp
  | succ j ih =>
    intro k i x hi hk hx
    obtain ⟨k, rfl⟩ : ∃ m, k = m + 1 := ⟨k - 1, by omega⟩
    simp only [impl_joined.l0]
    by_cases h : i < L.length
    · have e : rd_L1 L (i : Int) = L[i] := by
        unfold rd_L1
        simp [List.getD_eq_getElem?_getD, h]
      rw [List.drop_eq_getElem_cons h, List.flatten_cons, ← List.append_assoc] at hx ⊢
      have hx' : (x ++ L[i]).length < 17592186044416 := by
        rw [List.length_append] at hx; omega
      rw [if_pos (by omega), if_pos (by omega), if_pos (by omega), e, if_pos (by rw [← List.length_append]; exact hx'), nxt (by omega)]
      exact ih k (i + 1) _ (by omega) (by omega) hx
    · rw [if_neg (by omega), List.drop_eq_nil_of_le (by omega)]; simp
theorem impl_joined_eq {k : Nat} (x : List Int) (L : List (List Int)) (hL : L.length ≤ 1000) (hk : L.length < k) (h : (x ++ L.flatten).length < 17592186044416) : impl_joined.f k x L = some (x ++ L.flatten) := by
  unfold impl_joined.f
  simp only [Option.bind_some]
  rw [if_pos (by rw [List.length_append] at h; simp; omega), List.nil_append]
  exact impl_joined_l0 L hL L.length k 0 x (by omega) hk h
theorem impl_KeyedHash_eq {k : Nat} (a : Int) (l : List Int) (hl : l.length ≤ 1000000000000) (hk : l.length + 2 < k) : impl_KeyedHash.f k a l = some (KH a l) := by
  unfold impl_KeyedHash.f
  rw [impl_joined_eq _ _ (by simp) (by simp; omega) (by simp; omega)]; simp only [Option.bind_some]
  rw [impl_Hash_eq _ (by simp; omega) (by simp; omega)]
  simp only [Option.bind_some]
  congr 2
theorem impl_SignMessage_eq {k : Nat} (a : Int) (m : List Int) (hm : m.length ≤ 1000000000) (hk : m.length + 10 < k) : impl_SignMessage.f k a m = some (SM a m) := by
  unfold impl_SignMessage.f SM
  rw [impl_IsValidKey_eq]; simp only [Option.bind_some]
  by_cases h : 1 ≤ a ∧ a ≤ 2147483646
  · rw [if_pos (by simpa using h), if_pos h, impl_joined_eq _ _ (by simp) (by simp; omega) (by simp; omega)]; simp only [Option.bind_some]
    rw [impl_KeyedHash_eq _ _ (by simp; omega) (by simp; omega)]; simp
  · rw [if_neg (by simpa using h), if_neg h]
theorem impl_VerifySignature_eq {k : Nat} (a : Int) (m : List Int) (s : Int) (hm : m.length ≤ 1000000000) (hk : m.length + 100 < k) : impl_VerifySignature.f k a m s = some (if VK a = 0 then false else SM (VK a) m == s) := by
  unfold impl_VerifySignature.f
  rw [impl_PrivateKey_eq (by omega)]; simp only [Option.bind_some]
  by_cases h : VK a = 0
  · rw [if_pos h, if_pos h]
  · rw [if_neg h, if_neg h, impl_SignMessage_eq _ _ hm (by omega)]; rfl
theorem proved : laws_FnExactVerifySignature.Pure := by
  intro a0 l1 a2 _ _ _ _ _
  obtain ⟨K, hK⟩ : ∃ K : Nat, 1000000000 ≤ K := ⟨_, Nat.le_refl _⟩
  refine ⟨K, ?_⟩
  unfold laws_FnExactVerifySignature.f
  rcases Nat.lt_or_ge 1048576 l1.length with h_l1 | h_l1
  · rw [if_pos (by omega)]
  rw [if_neg (by omega)]
  simp only [laws_toIntS_eq l1 h_l1 (show 1048576 < K by omega), laws_eqIntS_self l1 h_l1 (show 1048576 < K by omega), spec_VerifySignature_eq a0 l1 a2 (show _ ≤ _ by omega) (show _ < K by omega), impl_VerifySignature_eq a0 l1 a2 (show _ ≤ _ by omega) (show _ < K by omega), Option.bind_some]
  simp
end KFnExactVerifySignature
theorem FnExactVerifySignature : laws_FnExactVerifySignature.Pure := KFnExactVerifySignature.proved
end Go.Proofs.Ytgaodlegjpbcaaa.Pure
