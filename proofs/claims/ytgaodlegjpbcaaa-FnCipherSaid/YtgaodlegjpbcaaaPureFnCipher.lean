/- decryption inverts encryption, and encryption inverts decryption, for every input. -/
import Derived.Test.YtgaodlegjpbcaaaPFnCipherx2
import Derived.Test.YtgaodlegjpbcaaaNum3
set_option linter.unusedVariables false
set_option linter.unusedSimpArgs false
namespace Go.Proofs.Ytgaodlegjpbcaaa.Pure
open Go.RowKit Go.Proofs.Ytgaodlegjpbcaaa.PFnCipher Go.Proofs.YtgaodlegjpbcaaaW.PrintWords Go.Proofs.YtgaodlegjpbcaaaW.PrintLast Go.Proofs.Ytgaodlegjpbcaaa.Num
namespace KFnCipher
theorem impl_Mod_eq {k : Nat} (hk : 0 < k) (a m : Int) (h1 : 1 ≤ m) (h2 : m ≤ 1000000000000) : impl_Mod.f k a m = some (a % m) := by
  obtain ⟨k, rfl⟩ : ∃ j, k = j + 1 := ⟨k - 1, by omega⟩
  unfold impl_Mod.f
  rw [if_neg (by omega)]
  simp only [impl_Mod.j0]
  rw [if_neg (by simp; omega), if_neg (by omega), tmod_two a m h1 h2]
theorem impl_Mod_out {k : Nat} (hk : 0 < k) (a m : Int) (h : ¬ (1 ≤ m ∧ m ≤ 1000000000000)) : impl_Mod.f k a m = some 0 := by
  obtain ⟨k, rfl⟩ : ∃ j, k = j + 1 := ⟨k - 1, by omega⟩
  unfold impl_Mod.f
  by_cases h1 : m < 1
  · rw [if_pos h1]
    simp only [impl_Mod.j0]
    rw [if_pos (by simp)]
  · rw [if_neg h1]
    simp only [impl_Mod.j0]
    rw [if_pos (by simp; omega)]
theorem impl_Hash_l0 (l : List Int) (hl : l.length ≤ 4611686018427387904) : ∀ (j k i : Nat) (d : Int), l.length - i ≤ j → j < k → 0 ≤ d → d < 2147483647 → impl_Hash.l0 k d l (l.length : Int) (i : Int) = some (Hs d (l.drop i)) := by
  intro j
  induction j with
  | zero =>
    intro k i d hi hk h0 h1
    obtain ⟨k, rfl⟩ : ∃ m, k = m + 1 := ⟨k - 1, by omega⟩
    simp only [impl_Hash.l0]
    rw [if_neg (by omega), List.drop_eq_nil_of_le (by omega)]; rfl
  | succ j ih =>
    intro k i d hi hk h0 h1
    obtain ⟨k, rfl⟩ : ∃ m, k = m + 1 := ⟨k - 1, by omega⟩
    simp only [impl_Hash.l0]
    by_cases h : i < l.length
    · rw [if_pos (by omega), if_pos (by omega), if_pos (by omega), impl_Mod_eq (by omega) _ 2147483647 (by omega) (by omega)]; simp only [Option.bind_some]
      rw [rd_at h, hstep_go h0 h1, nxt (by omega), ih k (i + 1) _ (by omega) (by omega) (hstep_range _ _).1 (hstep_range _ _).2, Hs_drop d h]
    · rw [if_neg (by omega), List.drop_eq_nil_of_le (by omega)]; rfl
theorem impl_Hash_eq {k : Nat} (l : List Int) (hl : l.length ≤ 4611686018427387904) (hk : l.length < k) : impl_Hash.f k l = some (Hs 11 l) := by
  unfold impl_Hash.f
  exact impl_Hash_l0 l hl l.length k 0 11 (by omega) hk (by omega) (by omega)
theorem impl_joined_l0 (L : List (List Int)) (hL : L.length ≤ 1000) : ∀ (j k i : Nat) (x : List Int), L.length - i ≤ j → j < k → (x ++ (L.drop i).flatten).length < 17592186044416 → impl_joined.l0 k x L (L.length : Int) (i : Int) = some (x ++ (L.drop i).flatten) := by
  intro j
  induction j with
  | zero =>
    intro k i x hi hk hx
    obtain ⟨k, rfl⟩ : ∃ m, k = m + 1 := ⟨k - 1, by omega⟩
    simp only [impl_joined.l0]
    rw [if_neg (by omega), List.drop_eq_nil_of_le (by omega)]; simp
  | succ j ih =>
    intro k i x hi hk hx
    obtain ⟨k, rfl⟩ : ∃ m, k = m + 1 := ⟨k - 1, by omega⟩
    simp only [impl_joined.l0]
    by_cases h : i < L.length
    · have e : rd_L1 L (i : Int) = L[i] := by
        unfold rd_L1
        simp [List.getD_eq_getElem?_getD, h]
      rw [List.drop_eq_getElem_cons h, List.flatten_cons, ← List.append_assoc] at hx ⊢
      have hx' : (x ++ L[i]).length < 17592186044416 := by
        rw [List.length_append] at hx; omega
      rw [if_pos (by omega), if_pos (by omega), if_pos (by omega), e, if_pos (by rw [← List.length_append]; exact hx'), nxt (by omega)]
      exact ih k (i + 1) _ (by omega) (by omega) hx
    · rw [if_neg (by omega), List.drop_eq_nil_of_le (by omega)]; simp
theorem impl_joined_eq {k : Nat} (x : List Int) (L : List (List Int)) (hL : L.length ≤ 1000) (hk : L.length < k) (h : (x ++ L.flatten).length < 17592186044416) : impl_joined.f k x L = some (x ++ L.flatten) := by
  unfold impl_joined.f
  simp only [Option.bind_some]
  rw [if_pos (by rw [List.length_append] at h; simp; omega), List.nil_append]
  exact impl_joined_l0 L hL L.length k 0 x (by omega) hk h
theorem impl_KeyedHash_eq {k : Nat} (a : Int) (l : List Int) (hl : l.length ≤ 1000000000000) (hk : l.length + 2 < k) : impl_KeyedHash.f k a l = some (KH a l) := by
  unfold impl_KeyedHash.f
  rw [impl_joined_eq _ _ (by simp) (by simp; omega) (by simp; omega)]; simp only [Option.bind_some]
  rw [impl_Hash_eq _ (by simp; omega) (by simp; omega)]
  simp only [Option.bind_some]
  congr 2
theorem impl_Encrypt_l0 (key : Int) (l : List Int) (hb : ∀ x ∈ l, 0 ≤ x ∧ x ≤ 255) (hl : l.length ≤ 1000000000) : ∀ (j k i : Nat) (x : List Int), l.length - i ≤ j → j + 10 < k → x.length + (l.length - i) ≤ 2000000000 → impl_Encrypt.l0 k key x l (l.length : Int) (i : Int) = some (x ++ mapFrom (encB key) i (l.drop i)) := by
  intro j
  induction j with
  | zero =>
    intro k i x hi hk hx
    obtain ⟨k, rfl⟩ : ∃ m, k = m + 1 := ⟨k - 1, by omega⟩
    simp only [impl_Encrypt.l0]
    rw [if_neg (by omega), List.drop_eq_nil_of_le (by omega)]; simp [mapFrom]
  | succ j ih =>
    intro k i x hi hk hx
    obtain ⟨k, rfl⟩ : ∃ m, k = m + 1 := ⟨k - 1, by omega⟩
    simp only [impl_Encrypt.l0]
    by_cases h : i < l.length
    · have hv := hb _ (List.getElem_mem h)
      have hh := KH_range key [(i : Int)]
      rw [if_pos (by omega), if_pos (by omega), if_pos (by omega), impl_KeyedHash_eq _ _ (by simp) (by simp; omega)]; simp only [Option.bind_some]
      rw [if_pos (by omega), rd_at h, enc_go_impl hv.1 hv.2 hh.1 hh.2, nxt (by omega), ih k (i + 1) _ (by omega) (by omega) (by simp; omega), mapFrom_drop _ h, List.append_assoc]; rfl
    · rw [if_neg (by omega), List.drop_eq_nil_of_le (by omega)]; simp [mapFrom]
theorem impl_Encrypt_eq {k : Nat} (key : Int) (l : List Int) (hb : ∀ x ∈ l, 0 ≤ x ∧ x ≤ 255) (hl : l.length ≤ 1000000000) (hk : l.length + 10 < k) : impl_Encrypt.f k key l = some (mapFrom (encB key) 0 l) := by
  unfold impl_Encrypt.f
  exact impl_Encrypt_l0 key l hb hl l.length k 0 _ (by omega) hk (by simp; omega)
theorem impl_Decrypt_l0 (key : Int) (l : List Int) (hb : ∀ x ∈ l, 0 ≤ x ∧ x ≤ 255) (hl : l.length ≤ 1000000000) : ∀ (j k i : Nat) (x : List Int), l.length - i ≤ j → j + 10 < k → x.length + (l.length - i) ≤ 2000000000 → impl_Decrypt.l0 k key x l (l.length : Int) (i : Int) = some (x ++ mapFrom (decB key) i (l.drop i)) := by
  intro j
  induction j with
  | zero =>
    intro k i x hi hk hx
    obtain ⟨k, rfl⟩ : ∃ m, k = m + 1 := ⟨k - 1, by omega⟩
    simp only [impl_Decrypt.l0]
    rw [if_neg (by omega), List.drop_eq_nil_of_le (by omega)]; simp [mapFrom]
  | succ j ih =>
    intro k i x hi hk hx
    obtain ⟨k, rfl⟩ : ∃ m, k = m + 1 := ⟨k - 1, by omega⟩
    simp only [impl_Decrypt.l0]
    by_cases h : i < l.length
    · have hv := hb _ (List.getElem_mem h)
      have hh := KH_range key [(i : Int)]
      rw [if_pos (by omega), if_pos (by omega), if_pos (by omega), impl_KeyedHash_eq _ _ (by simp) (by simp; omega)]; simp only [Option.bind_some]
      rw [impl_Mod_eq (by omega) _ 256 (by omega) (by omega)]; simp only [Option.bind_some]
      rw [if_pos (by omega), rd_at h, dec_go_impl hv.1 hv.2 hh.1 hh.2, nxt (by omega), ih k (i + 1) _ (by omega) (by omega) (by simp; omega), mapFrom_drop _ h, List.append_assoc]; rfl
    · rw [if_neg (by omega), List.drop_eq_nil_of_le (by omega)]; simp [mapFrom]
theorem impl_Decrypt_eq {k : Nat} (key : Int) (l : List Int) (hb : ∀ x ∈ l, 0 ≤ x ∧ x ≤ 255) (hl : l.length ≤ 1000000000) (hk : l.length + 10 < k) : impl_Decrypt.f k key l = some (mapFrom (decB key) 0 l) := by
  unfold impl_Decrypt.f
  exact impl_Decrypt_l0 key l hb hl l.length k 0 _ (by omega) hk (by simp; omega)
theorem laws_big_eq (l : List Int) : laws_big.f l = some (decide ((l.length : Int) > 1048576)) := rfl
theorem spec_l1New_l0 (l : List Int) (hl : l.length ≤ 4611686018427387904) : ∀ (j k i : Nat) (h : Int), l.length - i ≤ j → j < k → ∃ h', spec_l1New.l0 k l h (i : Int) = some (l, 0, h') := by
  intro j
  induction j with
  | zero =>
    intro k i h hi hk
    obtain ⟨k, rfl⟩ : ∃ m, k = m + 1 := ⟨k - 1, by omega⟩
    simp only [spec_l1New.l0]
    rw [if_neg (by omega)]; exact ⟨_, rfl⟩
  | succ j ih =>
    intro k i h hi hk
    obtain ⟨k, rfl⟩ : ∃ m, k = m + 1 := ⟨k - 1, by omega⟩
    simp only [spec_l1New.l0]
    by_cases h1 : (i : Int) < (l.length : Int)
    · rw [if_pos h1]
      by_cases h2 : (i : Int) < 4000
      · rw [if_pos h2, if_pos (by omega), nxt (by omega)]
        exact ih k (i + 1) _ (by omega) (by omega)
      · rw [if_neg h2]; exact ⟨_, rfl⟩
    · rw [if_neg h1]; exact ⟨_, rfl⟩
theorem spec_l1New_ok {k : Nat} (l : List Int) (hl : l.length ≤ 4611686018427387904) (hk : l.length < k) : ∃ h, spec_l1New.f k l = some (l, 0, h) := by
  unfold spec_l1New.f
  exact spec_l1New_l0 l hl l.length k 0 _ (by omega) hk
theorem spec_l1Byte_ok (l : List Int) (i h : Int) (hi : 0 ≤ i) (hl : l.length ≤ 4611686018427387904) : ∃ v i' h', spec_l1Byte.f l i h = some (v, i', h') ∧ 0 ≤ i' ∧ 0 ≤ v ∧ v ≤ 255 := by
  unfold spec_l1Byte.f
  by_cases h1 : i < (l.length : Int)
  · rw [if_pos h1, if_pos hi, w64 (n := i + 1) (by omega) (by omega)]
    exact ⟨_, _, _, rfl, by omega, (and255_range _).1, (and255_range _).2⟩
  · rw [if_neg h1]
    exact ⟨_, _, _, rfl, hi, (and255_range _).1, (and255_range _).2⟩
theorem spec_l1Below_ok (l : List Int) (i h n : Int) (hi : 0 ≤ i) (hl : l.length ≤ 4611686018427387904) : ∃ v i' h', spec_l1Below.f l i h n = some (v, i', h') ∧ 0 ≤ i' ∧ 0 ≤ v ∧ v ≤ 16777215 ∧ (0 < n → v < n) ∧ (n ≤ 0 → v = 0) := by
  unfold spec_l1Below.f
  by_cases h0 : n ≤ 0
  · rw [if_pos h0]; exact ⟨_, _, _, rfl, hi, by omega, by omega, by omega, by omega⟩
  rw [if_neg h0]
  by_cases h1 : n ≤ 256
  · rw [if_pos h1]
    obtain ⟨v, i1, g1, e, h2, h3, h4⟩ := spec_l1Byte_ok l i h hi hl
    rw [e]; simp only [Option.bind_some]
    rw [if_neg (by omega), Int.tmod_eq_emod_of_nonneg h3]
    have r0 : 0 ≤ v % n := Int.emod_nonneg _ (by omega)
    have r1 : v % n < n := Int.emod_lt_of_pos _ (by omega)
    exact ⟨_, _, _, rfl, h2, r0, by omega, fun _ => r1, by omega⟩
  · rw [if_neg h1]
    obtain ⟨v1, i1, g1, e1, a1, b1, c1⟩ := spec_l1Byte_ok l i h hi hl
    rw [e1]; simp only [Option.bind_some]
    obtain ⟨v2, i2, g2, e2, a2, b2, c2⟩ := spec_l1Byte_ok l i1 g1 a1 hl
    rw [e2]; simp only [Option.bind_some]
    obtain ⟨v3, i3, g3, e3, a3, b3, c3⟩ := spec_l1Byte_ok l i2 g2 a2 hl
    rw [e3]; simp only [Option.bind_some]
    rw [if_neg (by omega), w64 (n := v1 * 65536) (by omega) (by omega), w64 (n := v2 * 256) (by omega) (by omega), w64 (n := v1 * 65536 + v2 * 256) (by omega) (by omega), w64 (by omega) (by omega), Int.tmod_eq_emod_of_nonneg (by omega)]
    have r0 : 0 ≤ (v1 * 65536 + v2 * 256 + v3) % n := Int.emod_nonneg _ (by omega)
    have r1 : (v1 * 65536 + v2 * 256 + v3) % n < n := Int.emod_lt_of_pos _ (by omega)
    have r2 : (v1 * 65536 + v2 * 256 + v3) % n ≤ v1 * 65536 + v2 * 256 + v3 := by
      by_cases hlt : v1 * 65536 + v2 * 256 + v3 < n
      · rw [Int.emod_eq_of_lt (by omega) hlt]; omega
      · omega
    exact ⟨_, _, _, rfl, a3, r0, by omega, fun _ => r1, by omega⟩
theorem spec_l1Once_ok (l : List Int) (i h n : Int) (hi : 0 ≤ i) (hl : l.length ≤ 4611686018427387904) : ∃ v i' h', spec_l1Once.f l i h n = some (v, i', h') ∧ 0 ≤ i' := by
  unfold spec_l1Once.f
  obtain ⟨v, i1, g1, e, h2, _⟩ := spec_l1Below_ok l i h n hi hl
  rw [e]; simp only [Option.bind_some]
  exact ⟨_, _, _, rfl, h2⟩
theorem spec_l1Int_ok (l : List Int) (i h : Int) (s : List Int) (hs : 0 < s.length) (hi : 0 ≤ i) (hl : l.length ≤ 4611686018427387904) : ∃ v i' h', spec_l1Int.f l i h s = some (v, i', h') ∧ 0 ≤ i' ∧ v ∈ s := by
  unfold spec_l1Int.f
  obtain ⟨v, i1, g1, e, h2, h3, h4, h5, h6⟩ := spec_l1Below_ok l i h (s.length : Int) hi hl
  rw [e]; simp only [Option.bind_some]
  have h7 := h5 (by omega)
  obtain ⟨j, rfl⟩ := Int.eq_ofNat_of_zero_le h3
  rw [if_pos h3, if_pos h7, rd_at (show j < s.length by omega)]
  exact ⟨_, _, _, rfl, h2, List.getElem_mem _⟩
theorem spec_l3Word_ok (l : List Int) (i h : Int) (hi : 0 ≤ i) (hl : l.length ≤ 4611686018427387904) : ∃ v i' h', spec_l3Word.f l i h = some (v, i', h') ∧ 0 ≤ i' ∧ -1 ≤ v ∧ v ≤ 4000000000 := by
  unfold spec_l3Word.f
  obtain ⟨b1, i1, g1, e1, h1⟩ := spec_l1Once_ok l i h 10 hi hl
  rw [e1]; simp only [Option.bind_some]
  cases b1 with
  | true =>
    rw [if_pos (by simp)]
    obtain ⟨v2, i2, g2, e2, h2, m2⟩ := spec_l1Int_ok l i1 g1 [(-1), 2147483647, 2147483648] (by simp) h1 hl
    rw [e2]; simp only [Option.bind_some]
    simp only [List.mem_cons, List.not_mem_nil, or_false] at m2
    exact ⟨_, _, _, rfl, h2, by omega, by omega⟩
  | false =>
    rw [if_neg (by simp)]
    obtain ⟨b2, i2, g2, e2, h2⟩ := spec_l1Once_ok l i1 g1 4 h1 hl
    rw [e2]; simp only [Option.bind_some]
    cases b2 with
    | true =>
      rw [if_pos (by simp)]
      obtain ⟨v3, i3, g3, e3, h3, m3⟩ := spec_l1Int_ok l i2 g2 [0, 1, 2147483646] (by simp) h2 hl
      rw [e3]; simp only [Option.bind_some]
      simp only [List.mem_cons, List.not_mem_nil, or_false] at m3
      exact ⟨_, _, _, rfl, h3, by omega, by omega⟩
    | false =>
      rw [if_neg (by simp)]
      obtain ⟨v3, i3, g3, e3, h3, a3, b3, c3, _⟩ := spec_l1Below_ok l i2 g2 1000000 h2 hl
      rw [e3]; simp only [Option.bind_some]
      obtain ⟨v4, i4, g4, e4, h4, a4, b4, c4, _⟩ := spec_l1Below_ok l i3 g3 2000 h3 hl
      rw [e4]; simp only [Option.bind_some]
      have p0 : 0 ≤ v3 * v4 := Int.mul_nonneg a3 a4
      have p1 : v3 * v4 ≤ 1000000 * 2000 := Int.mul_le_mul (by have := c3 (by omega); omega) (by have := c4 (by omega); omega) a4 (by omega)
      rw [w64 (by omega) (by omega)]
      exact ⟨_, _, _, rfl, h4, by omega, by omega⟩
theorem spec_l1Bytes_l0 (l : List Int) (hl : l.length ≤ 4611686018427387904) (n : Nat) (hn : n ≤ 1000000) : ∀ (j k q : Nat) (x : List Int) (i h : Int), n - q ≤ j → j < k → q ≤ n → x.length = q → 0 ≤ i → (∀ y ∈ x, 0 ≤ y ∧ y ≤ 255) →
    ∃ x' i' h', spec_l1Bytes.l0 k (n : Int) x (q : Int) l i h = some (x', i', h') ∧ x'.length = n ∧ 0 ≤ i' ∧ ∀ y ∈ x', 0 ≤ y ∧ y ≤ 255 := by
  intro j
  induction j with
  | zero =>
    intro k q x i h hj hk hq hx hi hb
    obtain ⟨k, rfl⟩ : ∃ m, k = m + 1 := ⟨k - 1, by omega⟩
    simp only [spec_l1Bytes.l0]
    rw [if_neg (by omega)]
    exact ⟨x, i, h, rfl, by omega, hi, hb⟩
  | succ j ih =>
    intro k q x i h hj hk hq hx hi hb
    obtain ⟨k, rfl⟩ : ∃ m, k = m + 1 := ⟨k - 1, by omega⟩
    simp only [spec_l1Bytes.l0]
    by_cases hlt : q < n
    · obtain ⟨v, i1, g1, e, h2, h3, h4⟩ := spec_l1Byte_ok l i h hi hl
      rw [if_pos (by omega), e]; simp only [Option.bind_some]
      rw [if_pos (by omega), nxt (by omega)]
      refine ih k (q + 1) _ i1 g1 (by omega) (by omega) (by omega) (by simp; omega) h2 (fun y hy => ?_)
      rcases List.mem_append.1 hy with hy | hy
      · exact hb y hy
      · rw [List.mem_singleton] at hy
        subst hy
        omega
    · rw [if_neg (by omega)]
      exact ⟨x, i, h, rfl, by omega, hi, hb⟩
theorem spec_l1Bytes_ok {k : Nat} (l : List Int) (i h n : Int) (hl : l.length ≤ 4611686018427387904) (h0 : 0 ≤ n) (hn : n ≤ 1000000) (hk : 1000000 < k) (hi : 0 ≤ i) :
    ∃ x' i' h', spec_l1Bytes.f k l i h n = some (x', i', h') ∧ (x'.length : Int) = n ∧ 0 ≤ i' ∧ ∀ y ∈ x', 0 ≤ y ∧ y ≤ 255 := by
  obtain ⟨N, rfl⟩ := Int.eq_ofNat_of_zero_le h0
  unfold spec_l1Bytes.f
  obtain ⟨x', i', h', e, e1, e2, e3⟩ := spec_l1Bytes_l0 l hl N (by omega) N k 0 [] i h (by omega) (by omega) (by omega) rfl hi (by simp)
  exact ⟨x', i', h', e, by omega, e2, e3⟩
theorem spec_DrawEncrypt_ok {k : Nat} (l : List Int) (hl : l.length ≤ 1048576) (hk : 1048576 < k) : ∃ a b, spec_DrawEncrypt.f k l = some (a, b) ∧ b.length ≤ 7 ∧ ∀ y ∈ b, 0 ≤ y ∧ y ≤ 255 := by
  unfold spec_DrawEncrypt.f
  obtain ⟨h, e⟩ := spec_l1New_ok (k := k) l (by omega) (by omega)
  rw [e]; simp only [Option.bind_some]
  obtain ⟨v1, i1, g1, e1, h1, _⟩ := spec_l3Word_ok l 0 h (by omega) (by omega)
  rw [e1]; simp only [Option.bind_some]
  obtain ⟨v2, i2, g2, e2, h2, a2, b2, c2, _⟩ := spec_l1Below_ok l i1 g1 8 h1 (by omega)
  have c2' := c2 (by omega)
  rw [e2]; simp only [Option.bind_some]
  obtain ⟨v3, i3, g3, e3, h3, a3, b3⟩ := spec_l1Bytes_ok (k := k) l i2 g2 v2 (by omega) a2 (by omega) (by omega) h2
  rw [e3]; simp only [Option.bind_some]
  exact ⟨_, _, rfl, by omega, b3⟩
theorem laws_sameBytes_l0 (a b : List Int) (hl : a.length = b.length) (hm : a.length ≤ 4611686018427387904) : ∀ (j k i : Nat), a.length - i ≤ j → j < k → laws_sameBytes.l0 k a b (i : Int) = some (decide (a.drop i = b.drop i)) := by
  intro j
  induction j with
  | zero =>
    intro k i hi hk
    obtain ⟨k, rfl⟩ : ∃ m, k = m + 1 := ⟨k - 1, by omega⟩
    simp only [laws_sameBytes.l0]
    rw [if_neg (by omega), List.drop_eq_nil_of_le (by omega), List.drop_eq_nil_of_le (by omega)]; simp
  | succ j ih =>
    intro k i hi hk
    obtain ⟨k, rfl⟩ : ∃ m, k = m + 1 := ⟨k - 1, by omega⟩
    simp only [laws_sameBytes.l0]
    by_cases h : i < a.length
    · have hb : i < b.length := by omega
      rw [if_pos (by omega), if_pos (by omega), if_pos (by omega), nxt (by omega), rd_at h, rd_at hb, ih k (i + 1) (by omega) (by omega), List.drop_eq_getElem_cons h, List.drop_eq_getElem_cons hb]
      by_cases e : a[i] = b[i]
      · rw [if_pos e]; congr 1; rw [decide_eq_decide]; exact ⟨fun h1 => by rw [e, h1], fun h1 => (List.cons.inj h1).2⟩
      · rw [if_neg e]; congr 1; symm; rw [decide_eq_false_iff_not]; exact fun h1 => e (List.cons.inj h1).1
    · rw [if_neg (by omega), List.drop_eq_nil_of_le (by omega), List.drop_eq_nil_of_le (by omega)]; simp
theorem laws_sameBytes_eq {k : Nat} (a b : List Int) (hm : a.length ≤ 4611686018427387904) (hk : a.length < k) : laws_sameBytes.f k a b = some (decide (a = b)) := by
  unfold laws_sameBytes.f
  by_cases h : a.length = b.length
  · rw [if_pos (by omega)]
    exact laws_sameBytes_l0 a b h hm a.length k 0 (by omega) hk
  · rw [if_neg (by omega)]
    have : a ≠ b := fun e => h (by rw [e])
    simp [this]
theorem laws_sameBytes_self {k : Nat} (a : List Int) (hm : a.length ≤ 1048576) (hk : 1048576 < k) : laws_sameBytes.f k a a = some true := by
  rw [laws_sameBytes_eq a a (by omega) (by omega)]; simp
theorem proved : laws_FnCipher.Pure := by
  intro l0 _ _ _
  obtain ⟨K, hK⟩ : ∃ K : Nat, 1000000000 ≤ K := ⟨_, Nat.le_refl _⟩
  refine ⟨K, ?_⟩
  unfold laws_FnCipher.f
  rw [laws_big_eq]; simp only [Option.bind_some]
  by_cases hl : (l0.length : Int) > 1048576
  · rw [if_pos (by simpa using hl)]
  rw [if_neg (by simpa using hl)]
  obtain ⟨a, b, e, hlen, hb⟩ := spec_DrawEncrypt_ok (k := K) l0 (by omega) (by omega)
  have h1 := impl_Encrypt_eq (k := K) a b hb (by omega) (by omega)
  have h2 := impl_Decrypt_eq (k := K) a b hb (by omega) (by omega)
  have h3 := impl_Decrypt_eq (k := K) a (mapFrom (encB a) 0 b) (mapFrom_range _ (enc_range a) b 0) (by rw [mapFrom_length]; omega) (by rw [mapFrom_length]; omega)
  have h4 := impl_Encrypt_eq (k := K) a (mapFrom (decB a) 0 b) (mapFrom_range _ (dec_range a) b 0) (by rw [mapFrom_length]; omega) (by rw [mapFrom_length]; omega)
  rw [mapFrom_inv (encB a) (decB a) (dec_enc a) b 0 hb] at h3
  rw [mapFrom_inv (decB a) (encB a) (enc_dec a) b 0 hb] at h4
  have h5 : laws_sameBytes.f K b b = some true := by rw [laws_sameBytes_eq b b (by omega) (by omega)]; simp
  have h6 := mapFrom_length (encB a) b 0
  generalize mapFrom (encB a) 0 b = u at *
  generalize mapFrom (decB a) 0 b = v at *
  simp only [e, h1, h2, h3, h4, h5, Option.bind_some]
  simp [h6]
end KFnCipher
theorem FnCipher : laws_FnCipher.Pure := KFnCipher.proved
end Go.Proofs.Ytgaodlegjpbcaaa.Pure
