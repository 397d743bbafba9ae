/- a keyed hash lies in its range, is the hash of its parts, changes with each of its values, and a derived key is a valid key. -/
import Derived.Test.YtgaodlegjpbcaaaPFnKeyedHashx3
import Derived.Test.YtgaodlegjpbcaaaNum3
set_option linter.unusedVariables false
set_option linter.unusedSimpArgs false
namespace Go.Proofs.Ytgaodlegjpbcaaa.Pure
open Go.RowKit Go.Proofs.Ytgaodlegjpbcaaa.PFnKeyedHash Go.Proofs.YtgaodlegjpbcaaaW.PrintWords Go.Proofs.YtgaodlegjpbcaaaW.PrintLast Go.Proofs.Ytgaodlegjpbcaaa.Num
namespace KFnKeyedHash
theorem BL_range (s : ByteArray) : ∀ x ∈ BL s, 0 ≤ x ∧ x ≤ 255 := by
  intro x hx
  unfold BL at hx
  obtain ⟨b, _, rfl⟩ := List.mem_map.1 hx
  have := b.toNat_lt
  omega
def DS (a : Int) (s : ByteArray) : Int := OO (KH a ((s.size : Int) :: BL s))
theorem DS_range (a : Int) (s : ByteArray) : 1 ≤ DS a s ∧ DS a s ≤ 2147483646 := by
  have := KH_range a ((s.size : Int) :: BL s)
  unfold DS OO
  split <;> omega
theorem impl_Mod_eq {k : Nat} (hk : 0 < k) (a m : Int) (h1 : 1 ≤ m) (h2 : m ≤ 1000000000000) : impl_Mod.f k a m = some (a % m) := by
  obtain ⟨k, rfl⟩ : ∃ j, k = j + 1 := ⟨k - 1, by omega⟩
  unfold impl_Mod.f
  rw [if_neg (by omega)]
  simp only [impl_Mod.j0]
  rw [if_neg (by simp; omega), if_neg (by omega), tmod_two a m h1 h2]
theorem impl_Mod_out {k : Nat} (hk : 0 < k) (a m : Int) (h : ¬ (1 ≤ m ∧ m ≤ 1000000000000)) : impl_Mod.f k a m = some 0 := by
  obtain ⟨k, rfl⟩ : ∃ j, k = j + 1 := ⟨k - 1, by omega⟩
  unfold impl_Mod.f
  by_cases h1 : m < 1
  · rw [if_pos h1]
    simp only [impl_Mod.j0]
    rw [if_pos (by simp)]
  · rw [if_neg h1]
    simp only [impl_Mod.j0]
    rw [if_pos (by simp; omega)]
theorem impl_Hash_l0 (l : List Int) (hl : l.length ≤ 4611686018427387904) : ∀ (j k i : Nat) (d : Int), l.length - i ≤ j → j < k → 0 ≤ d → d < 2147483647 → impl_Hash.l0 k d l (l.length : Int) (i : Int) = some (Hs d (l.drop i)) := by
  intro j
  induction j with
  | zero =>
    intro k i d hi hk h0 h1
    obtain ⟨k, rfl⟩ : ∃ m, k = m + 1 := ⟨k - 1, by omega⟩
    simp only [impl_Hash.l0]
    rw [if_neg (by omega), List.drop_eq_nil_of_le (by omega)]; rfl
  | succ j ih =>
    intro k i d hi hk h0 h1
    obtain ⟨k, rfl⟩ : ∃ m, k = m + 1 := ⟨k - 1, by omega⟩
    simp only [impl_Hash.l0]
    by_cases h : i < l.length
    · rw [if_pos (by omega), if_pos (by omega), if_pos (by omega), impl_Mod_eq (by omega) _ 2147483647 (by omega) (by omega)]; simp only [Option.bind_some]
      rw [rd_at h, hstep_go h0 h1, nxt (by omega), ih k (i + 1) _ (by omega) (by omega) (hstep_range _ _).1 (hstep_range _ _).2, Hs_drop d h]
    · rw [if_neg (by omega), List.drop_eq_nil_of_le (by omega)]; rfl
theorem impl_Hash_eq {k : Nat} (l : List Int) (hl : l.length ≤ 4611686018427387904) (hk : l.length < k) : impl_Hash.f k l = some (Hs 11 l) := by
  unfold impl_Hash.f
  exact impl_Hash_l0 l hl l.length k 0 11 (by omega) hk (by omega) (by omega)
theorem impl_joined_l0 (L : List (List Int)) (hL : L.length ≤ 1000) : ∀ (j k i : Nat) (x : List Int), L.length - i ≤ j → j < k → (x ++ (L.drop i).flatten).length < 17592186044416 → impl_joined.l0 k x L (L.length : Int) (i : Int) = some (x ++ (L.drop i).flatten) := by
  intro j
  induction j with
  | zero =>
    intro k i x hi hk hx
    obtain ⟨k, rfl⟩ : ∃ m, k = m + 1 := ⟨k - 1, by omega⟩
    simp only [impl_joined.l0]
    rw [if_neg (by omega), List.drop_eq_nil_of_le (by omega)]; simp
  | succ j ih =>
    intro k i x hi hk hx
    obtain ⟨k, rfl⟩ : ∃ m, k = m + 1 := ⟨k - 1, by omega⟩
    simp only [impl_joined.l0]
    by_cases h : i < L.length
    · have e : rd_L1 L (i : Int) = L[i] := by
        unfold rd_L1
        simp [List.getD_eq_getElem?_getD, h]
      rw [List.drop_eq_getElem_cons h, List.flatten_cons, ← List.append_assoc] at hx ⊢
      have hx' : (x ++ L[i]).length < 17592186044416 := by
        rw [List.length_append] at hx; omega
      rw [if_pos (by omega), if_pos (by omega), if_pos (by omega), e, if_pos (by rw [← List.length_append]; exact hx'), nxt (by omega)]
      exact ih k (i + 1) _ (by omega) (by omega) hx
    · rw [if_neg (by omega), List.drop_eq_nil_of_le (by omega)]; simp
theorem impl_joined_eq {k : Nat} (x : List Int) (L : List (List Int)) (hL : L.length ≤ 1000) (hk : L.length < k) (h : (x ++ L.flatten).length < 17592186044416) : impl_joined.f k x L = some (x ++ L.flatten) := by
  unfold impl_joined.f
  simp only [Option.bind_some]
  rw [if_pos (by rw [List.length_append] at h; simp; omega), List.nil_append]
  exact impl_joined_l0 L hL L.length k 0 x (by omega) hk h
theorem impl_KeyedHash_eq {k : Nat} (a : Int) (l : List Int) (hl : l.length ≤ 1000000000000) (hk : l.length + 2 < k) : impl_KeyedHash.f k a l = some (KH a l) := by
  unfold impl_KeyedHash.f
  rw [impl_joined_eq _ _ (by simp) (by simp; omega) (by simp; omega)]; simp only [Option.bind_some]
  rw [impl_Hash_eq _ (by simp; omega) (by simp; omega)]
  simp only [Option.bind_some]
  congr 2
theorem impl_BytesToInts_l0 (l : List Int) (hb : ∀ x ∈ l, 0 ≤ x ∧ x ≤ 255) (hl : l.length ≤ 1000000000) : ∀ (j k i : Nat) (x : List Int), l.length - i ≤ j → j < k → x.length + (l.length - i) ≤ 2000000000 → impl_BytesToInts.l0 k x l (l.length : Int) (i : Int) = some (x ++ l.drop i) := by
  intro j
  induction j with
  | zero =>
    intro k i x hi hk hx
    obtain ⟨k, rfl⟩ : ∃ m, k = m + 1 := ⟨k - 1, by omega⟩
    simp only [impl_BytesToInts.l0]
    rw [if_neg (by omega), List.drop_eq_nil_of_le (by omega), List.append_nil]
  | succ j ih =>
    intro k i x hi hk hx
    obtain ⟨k, rfl⟩ : ∃ m, k = m + 1 := ⟨k - 1, by omega⟩
    simp only [impl_BytesToInts.l0]
    by_cases h : i < l.length
    · have hv := hb _ (List.getElem_mem h)
      rw [if_pos (by omega), if_pos (by omega), if_pos (by omega), if_pos (by omega), rd_at h, w64 (n := l[i]) (by omega) (by omega), nxt (by omega), ih k (i + 1) _ (by omega) (by omega) (by simp; omega), List.drop_eq_getElem_cons h, List.append_assoc]; rfl
    · rw [if_neg (by omega), List.drop_eq_nil_of_le (by omega), List.append_nil]
theorem impl_BytesToInts_eq {k : Nat} (l : List Int) (hb : ∀ x ∈ l, 0 ≤ x ∧ x ≤ 255) (hl : l.length ≤ 1000000000) (hk : l.length < k) : impl_BytesToInts.f k l = some ((l.length : Int) :: l) := by
  unfold impl_BytesToInts.f
  exact impl_BytesToInts_l0 l hb hl l.length k 0 _ (by omega) hk (by simp; omega)
theorem impl_orOne_eq (h : Int) : impl_orOne.f h = some (if h = 0 then 1 else h) := by
  unfold impl_orOne.f
  by_cases e : h = 0
  · rw [if_pos e, if_pos e]
  · rw [if_neg e, if_neg e]
theorem impl_DeriveFromString_eq {k : Nat} (hk : 100000000 ≤ k) (a : Int) (s : ByteArray) (hs : s.size ≤ 1048576) : impl_DeriveFromString.f k a s = some (DS a s) := by
  have hl := BL_length s
  unfold impl_DeriveFromString.f
  rw [if_pos (by omega), impl_BytesToInts_eq (BL s) (BL_range s) (by omega) (by omega)]; simp only [Option.bind_some]
  rw [hl, impl_KeyedHash_eq a _ (by rw [List.length_cons]; omega) (by rw [List.length_cons]; omega)]; simp only [Option.bind_some]
  rw [impl_orOne_eq]; rfl
theorem laws_big_eq (l : List Int) : laws_big.f l = some (decide ((l.length : Int) > 1048576)) := rfl
theorem spec_l1New_l0 (l : List Int) (hl : l.length ≤ 4611686018427387904) : ∀ (j k i : Nat) (h : Int), l.length - i ≤ j → j < k → ∃ h', spec_l1New.l0 k l h (i : Int) = some (l, 0, h') := by
  intro j
  induction j with
  | zero =>
    intro k i h hi hk
    obtain ⟨k, rfl⟩ : ∃ m, k = m + 1 := ⟨k - 1, by omega⟩
    simp only [spec_l1New.l0]
    rw [if_neg (by omega)]; exact ⟨_, rfl⟩
  | succ j ih =>
    intro k i h hi hk
    obtain ⟨k, rfl⟩ : ∃ m, k = m + 1 := ⟨k - 1, by omega⟩
    simp only [spec_l1New.l0]
    by_cases h1 : (i : Int) < (l.length : Int)
    · rw [if_pos h1]
      by_cases h2 : (i : Int) < 4000
      · rw [if_pos h2, if_pos (by omega), nxt (by omega)]
        exact ih k (i + 1) _ (by omega) (by omega)
      · rw [if_neg h2]; exact ⟨_, rfl⟩
    · rw [if_neg h1]; exact ⟨_, rfl⟩
theorem spec_l1New_ok {k : Nat} (l : List Int) (hl : l.length ≤ 4611686018427387904) (hk : l.length < k) : ∃ h, spec_l1New.f k l = some (l, 0, h) := by
  unfold spec_l1New.f
  exact spec_l1New_l0 l hl l.length k 0 _ (by omega) hk
theorem spec_l1Byte_ok (l : List Int) (i h : Int) (hi : 0 ≤ i) (hl : l.length ≤ 4611686018427387904) : ∃ v i' h', spec_l1Byte.f l i h = some (v, i', h') ∧ 0 ≤ i' ∧ 0 ≤ v ∧ v ≤ 255 := by
  unfold spec_l1Byte.f
  by_cases h1 : i < (l.length : Int)
  · rw [if_pos h1, if_pos hi, w64 (n := i + 1) (by omega) (by omega)]
    exact ⟨_, _, _, rfl, by omega, (and255_range _).1, (and255_range _).2⟩
  · rw [if_neg h1]
    exact ⟨_, _, _, rfl, hi, (and255_range _).1, (and255_range _).2⟩
theorem spec_l1Below_ok (l : List Int) (i h n : Int) (hi : 0 ≤ i) (hl : l.length ≤ 4611686018427387904) : ∃ v i' h', spec_l1Below.f l i h n = some (v, i', h') ∧ 0 ≤ i' ∧ 0 ≤ v ∧ v ≤ 16777215 ∧ (0 < n → v < n) ∧ (n ≤ 0 → v = 0) := by
  unfold spec_l1Below.f
  by_cases h0 : n ≤ 0
  · rw [if_pos h0]; exact ⟨_, _, _, rfl, hi, by omega, by omega, by omega, by omega⟩
  rw [if_neg h0]
  by_cases h1 : n ≤ 256
  · rw [if_pos h1]
    obtain ⟨v, i1, g1, e, h2, h3, h4⟩ := spec_l1Byte_ok l i h hi hl
    rw [e]; simp only [Option.bind_some]
    rw [if_neg (by omega), Int.tmod_eq_emod_of_nonneg h3]
    have r0 : 0 ≤ v % n := Int.emod_nonneg _ (by omega)
    have r1 : v % n < n := Int.emod_lt_of_pos _ (by omega)
    exact ⟨_, _, _, rfl, h2, r0, by omega, fun _ => r1, by omega⟩
  · rw [if_neg h1]
    obtain ⟨v1, i1, g1, e1, a1, b1, c1⟩ := spec_l1Byte_ok l i h hi hl
    rw [e1]; simp only [Option.bind_some]
    obtain ⟨v2, i2, g2, e2, a2, b2, c2⟩ := spec_l1Byte_ok l i1 g1 a1 hl
    rw [e2]; simp only [Option.bind_some]
    obtain ⟨v3, i3, g3, e3, a3, b3, c3⟩ := spec_l1Byte_ok l i2 g2 a2 hl
    rw [e3]; simp only [Option.bind_some]
    rw [if_neg (by omega), w64 (n := v1 * 65536) (by omega) (by omega), w64 (n := v2 * 256) (by omega) (by omega), w64 (n := v1 * 65536 + v2 * 256) (by omega) (by omega), w64 (by omega) (by omega), Int.tmod_eq_emod_of_nonneg (by omega)]
    have r0 : 0 ≤ (v1 * 65536 + v2 * 256 + v3) % n := Int.emod_nonneg _ (by omega)
    have r1 : (v1 * 65536 + v2 * 256 + v3) % n < n := Int.emod_lt_of_pos _ (by omega)
    have r2 : (v1 * 65536 + v2 * 256 + v3) % n ≤ v1 * 65536 + v2 * 256 + v3 := by
      by_cases hlt : v1 * 65536 + v2 * 256 + v3 < n
      · rw [Int.emod_eq_of_lt (by omega) hlt]; omega
      · omega
    exact ⟨_, _, _, rfl, a3, r0, by omega, fun _ => r1, by omega⟩
theorem spec_l1Once_ok (l : List Int) (i h n : Int) (hi : 0 ≤ i) (hl : l.length ≤ 4611686018427387904) : ∃ v i' h', spec_l1Once.f l i h n = some (v, i', h') ∧ 0 ≤ i' := by
  unfold spec_l1Once.f
  obtain ⟨v, i1, g1, e, h2, _⟩ := spec_l1Below_ok l i h n hi hl
  rw [e]; simp only [Option.bind_some]
  exact ⟨_, _, _, rfl, h2⟩
theorem spec_l1Int_ok (l : List Int) (i h : Int) (s : List Int) (hs : 0 < s.length) (hi : 0 ≤ i) (hl : l.length ≤ 4611686018427387904) : ∃ v i' h', spec_l1Int.f l i h s = some (v, i', h') ∧ 0 ≤ i' ∧ v ∈ s := by
  unfold spec_l1Int.f
  obtain ⟨v, i1, g1, e, h2, h3, h4, h5, h6⟩ := spec_l1Below_ok l i h (s.length : Int) hi hl
  rw [e]; simp only [Option.bind_some]
  have h7 := h5 (by omega)
  obtain ⟨j, rfl⟩ := Int.eq_ofNat_of_zero_le h3
  rw [if_pos h3, if_pos h7, rd_at (show j < s.length by omega)]
  exact ⟨_, _, _, rfl, h2, List.getElem_mem _⟩
theorem spec_l3Word_ok (l : List Int) (i h : Int) (hi : 0 ≤ i) (hl : l.length ≤ 4611686018427387904) : ∃ v i' h', spec_l3Word.f l i h = some (v, i', h') ∧ 0 ≤ i' ∧ -1 ≤ v ∧ v ≤ 4000000000 := by
  unfold spec_l3Word.f
  obtain ⟨b1, i1, g1, e1, h1⟩ := spec_l1Once_ok l i h 10 hi hl
  rw [e1]; simp only [Option.bind_some]
  cases b1 with
  | true =>
    rw [if_pos (by simp)]
    obtain ⟨v2, i2, g2, e2, h2, m2⟩ := spec_l1Int_ok l i1 g1 [(-1), 2147483647, 2147483648] (by simp) h1 hl
    rw [e2]; simp only [Option.bind_some]
    simp only [List.mem_cons, List.not_mem_nil, or_false] at m2
    exact ⟨_, _, _, rfl, h2, by omega, by omega⟩
  | false =>
    rw [if_neg (by simp)]
    obtain ⟨b2, i2, g2, e2, h2⟩ := spec_l1Once_ok l i1 g1 4 h1 hl
    rw [e2]; simp only [Option.bind_some]
    cases b2 with
    | true =>
      rw [if_pos (by simp)]
      obtain ⟨v3, i3, g3, e3, h3, m3⟩ := spec_l1Int_ok l i2 g2 [0, 1, 2147483646] (by simp) h2 hl
      rw [e3]; simp only [Option.bind_some]
      simp only [List.mem_cons, List.not_mem_nil, or_false] at m3
      exact ⟨_, _, _, rfl, h3, by omega, by omega⟩
    | false =>
      rw [if_neg (by simp)]
      obtain ⟨v3, i3, g3, e3, h3, a3, b3, c3, _⟩ := spec_l1Below_ok l i2 g2 1000000 h2 hl
      rw [e3]; simp only [Option.bind_some]
      obtain ⟨v4, i4, g4, e4, h4, a4, b4, c4, _⟩ := spec_l1Below_ok l i3 g3 2000 h3 hl
      rw [e4]; simp only [Option.bind_some]
      have p0 : 0 ≤ v3 * v4 := Int.mul_nonneg a3 a4
      have p1 : v3 * v4 ≤ 1000000 * 2000 := Int.mul_le_mul (by have := c3 (by omega); omega) (by have := c4 (by omega); omega) a4 (by omega)
      rw [w64 (by omega) (by omega)]
      exact ⟨_, _, _, rfl, h4, by omega, by omega⟩
theorem spec_l3Words_l0 (l : List Int) (hl : l.length ≤ 4611686018427387904) : ∀ (n k : Nat) (x : List Int) (i h : Int), n < k → 0 ≤ i → x.length + n ≤ 1000 → (∀ y ∈ x, -1 ≤ y ∧ y ≤ 4000000000) → ∃ v i' h', spec_l3Words.l0 k x (n : Int) l i h = some (v, i', h') ∧ 0 ≤ i' ∧ v.length = x.length + n ∧ ∀ y ∈ v, -1 ≤ y ∧ y ≤ 4000000000 := by
  intro n
  induction n with
  | zero =>
    intro k x i h hk hi hx hy
    obtain ⟨k, rfl⟩ : ∃ m, k = m + 1 := ⟨k - 1, by omega⟩
    simp only [spec_l3Words.l0]
    rw [if_neg (by omega)]
    exact ⟨_, _, _, rfl, hi, rfl, hy⟩
  | succ n ih =>
    intro k x i h hk hi hx hy
    obtain ⟨k, rfl⟩ : ∃ m, k = m + 1 := ⟨k - 1, by omega⟩
    simp only [spec_l3Words.l0]
    obtain ⟨v, i1, g1, e, h1, v0, v1⟩ := spec_l3Word_ok l i h hi hl
    rw [if_pos (by omega), e]; simp only [Option.bind_some]
    rw [if_pos (by omega), w64 (by omega) (by omega), show ((n + 1 : Nat) : Int) - 1 = (n : Int) by omega]
    obtain ⟨u, i2, g2, e2, h2, l2, r2⟩ := ih k (x ++ [v]) i1 g1 (by omega) h1 (by rw [List.length_append]; simp; omega) (fun y hyy => by
      rcases List.mem_append.1 hyy with h3 | h3
      · exact hy y h3
      · rw [List.mem_singleton.1 h3]; exact ⟨v0, v1⟩)
    exact ⟨u, i2, g2, e2, h2, by rw [l2, List.length_append]; simp; omega, r2⟩
theorem spec_l3Words_ok {k : Nat} (hk : 100 ≤ k) (l : List Int) (i h : Int) (hi : 0 ≤ i) (hl : l.length ≤ 4611686018427387904) : ∃ v i' h', spec_l3Words.f k l i h = some (v, i', h') ∧ 0 ≤ i' ∧ v.length ≤ 5 ∧ ∀ y ∈ v, -1 ≤ y ∧ y ≤ 4000000000 := by
  unfold spec_l3Words.f
  obtain ⟨v, i1, g1, e, h2, h3, h4, h5, h6⟩ := spec_l1Below_ok l i h 5 hi hl
  rw [e]; simp only [Option.bind_some]
  have h7 := h5 (by omega)
  obtain ⟨n, rfl⟩ := Int.eq_ofNat_of_zero_le h3
  obtain ⟨u, i2, g2, e2, q1, q2, q3⟩ := spec_l3Words_l0 l hl n k [] i1 g1 (by omega) h2 (by simp; omega) (fun y hy => by cases hy)
  exact ⟨u, i2, g2, e2, q1, by simp at q2; omega, q3⟩
theorem spec_DrawKeyedHash_ok {k : Nat} (l : List Int) (hl : l.length ≤ 1048576) (hk : 1048576 < k) : ∃ a b, spec_DrawKeyedHash.f k l = some (a, b) ∧ b.length ≤ 5 ∧ ∀ y ∈ b, -1 ≤ y ∧ y ≤ 4000000000 := by
  unfold spec_DrawKeyedHash.f
  obtain ⟨h, e⟩ := spec_l1New_ok (k := k) l (by omega) (by omega)
  rw [e]; simp only [Option.bind_some]
  obtain ⟨v1, i1, g1, e1, h1, _⟩ := spec_l3Word_ok l 0 h (by omega) (by omega)
  rw [e1]; simp only [Option.bind_some]
  obtain ⟨v2, i2, g2, e2, h2, a2, b2⟩ := spec_l3Words_ok (k := k) (by omega) l i1 g1 h1 (by omega)
  rw [e2]; simp only [Option.bind_some]
  exact ⟨_, _, rfl, a2, b2⟩
theorem laws_at_ok (l : List Int) (hb : ∀ x ∈ l, (Lit.int .u8 x).wf = true) (hl : l.length ≤ 1048576) (i : Int) (h0 : 0 ≤ i) (h1 : i ≤ 1048576) : ∃ v, laws_at.f l i = some v ∧ 0 ≤ v ∧ v ≤ 255 := by
  unfold laws_at.f
  by_cases h : i < (l.length : Int)
  · obtain ⟨j, rfl⟩ := Int.eq_ofNat_of_zero_le h0
    have hj : j < l.length := by omega
    have hv := wfb (hb _ (List.getElem_mem hj))
    rw [if_pos h, if_pos h0, rd_at hj, w64 (by omega) (by omega)]
    exact ⟨_, rfl, hv.1, hv.2⟩
  · rw [if_neg h, w64 (n := i * 31) (by omega) (by omega), w64 (n := (l.length : Int) * 7) (by omega) (by omega), w64 (by omega) (by omega), Int.tmod_eq_emod_of_nonneg (by omega)]
    exact ⟨_, rfl, by omega, by omega⟩
theorem spec_l1In_eq (a b c : Int) : spec_l1In.f a b c = some (decide (b ≤ a ∧ a ≤ c)) := by
  unfold spec_l1In.f
  by_cases h : b ≤ a
  · rw [if_pos h]; simp [h]
  · rw [if_neg (by omega)]; simp [h]
theorem spec_Mod_eq (a m : Int) (h1 : 1 ≤ m) (h2 : m ≤ 1000000000000) : spec_Mod.f a m = some (a % m) := by
  unfold spec_Mod.f
  rw [spec_l1In_eq]; simp only [Option.bind_some]
  rw [if_pos (by simp; omega), if_neg (by omega), tmod_fix h1 h2]
theorem spec_Mod_out (a m : Int) (h : ¬ (1 ≤ m ∧ m ≤ 1000000000000)) : spec_Mod.f a m = some 0 := by
  unfold spec_Mod.f
  rw [spec_l1In_eq]; simp only [Option.bind_some]
  rw [if_neg (by simpa using h)]
theorem spec_l1Str_ok (l : List Int) (i h : Int) (s : List ByteArray) (hs : 0 < s.length) (hi : 0 ≤ i) (hl : l.length ≤ 4611686018427387904) (hl2 : s.length ≤ 1000) : ∃ v i' h', spec_l1Str.f l i h s = some (v, i', h') ∧ 0 ≤ i' ∧ v ∈ s := by
  unfold spec_l1Str.f
  obtain ⟨v, i1, g1, e, h2, h3, h4, h5, h6⟩ := spec_l1Below_ok l i h (s.length : Int) hi hl
  rw [e]; simp only [Option.bind_some]
  have h7 := h5 (by omega)
  obtain ⟨j, rfl⟩ := Int.eq_ofNat_of_zero_le h3
  have hj : j < s.length := by omega
  have er : rdOf ByteArray.empty s (j : Int) = s[j] := by
    unfold rdOf
    simp [List.getD_eq_getElem?_getD, hj]
  rw [if_pos h3, if_pos h7, er]
  exact ⟨_, _, _, rfl, h2, List.getElem_mem _⟩
theorem spec_DrawDeriveFromString_ok {k : Nat} (l : List Int) (hl : l.length ≤ 1048576) (hk : 1048576 < k) : ∃ a s, spec_DrawDeriveFromString.f k l = some (a, s) ∧ s.size ≤ 1000 := by
  unfold spec_DrawDeriveFromString.f
  obtain ⟨h, e⟩ := spec_l1New_ok (k := k) l (by omega) (by omega)
  rw [e]; simp only [Option.bind_some]
  obtain ⟨v1, i1, g1, e1, h1, _⟩ := spec_l3Word_ok l 0 h (by omega) (by omega)
  rw [e1]; simp only [Option.bind_some]
  obtain ⟨v2, i2, g2, e2, h2, m2⟩ := spec_l1Str_ok l i1 g1 [(⟨#[]⟩ : ByteArray), (⟨#[97]⟩ : ByteArray), (⟨#[98]⟩ : ByteArray), (⟨#[97, 98]⟩ : ByteArray), (⟨#[110, 101, 119, 115]⟩ : ByteArray), (⟨#[120]⟩ : ByteArray)] (by simp) h1 (by omega) (by simp)
  rw [e2]; simp only [Option.bind_some]
  refine ⟨_, _, rfl, ?_⟩
  simp only [List.mem_cons, List.not_mem_nil, or_false] at m2
  rcases m2 with rfl | rfl | rfl | rfl | rfl | rfl <;> decide
theorem impl_InRange_eq (a b c : Int) : impl_InRange.f a b c = some (decide (b ≤ a ∧ a ≤ c)) := by
  unfold impl_InRange.f
  by_cases h : b ≤ a
  · rw [if_pos h]; simp [h]
  · rw [if_neg h]; simp [h]
theorem impl_IsValidKey_eq (a : Int) : impl_IsValidKey.f a = some (decide (1 ≤ a ∧ a ≤ 2147483646)) := by
  unfold impl_IsValidKey.f
  rw [impl_InRange_eq]; rfl
theorem aux (A B y : Int) (h : A + y = B) : y = B - A := by omega
theorem small (y s : Int) (h : y = 2147483647 * s) (h0 : -2147483647 < y) (h1 : y < 2147483647) : y = 0 := by omega
theorem lin {y t : Int} (ht : y * 1000003 = 2147483647 * t) : y = 2147483647 * (t * 1523789695 - y * 709572) := by
  have h6 : y * 1000003 * 1523789695 = 2147483647 * (t * 1523789695) := by rw [ht, Int.mul_assoc]
  have h7 : y * 1000003 * 1523789695 = y * (2147483647 * 709572 + 1) := by rw [Int.mul_assoc]; rfl
  rw [h7, Int.mul_add, Int.mul_one, Int.mul_left_comm] at h6
  rw [Int.mul_sub]
  exact aux _ _ _ h6
theorem same (d d' z : Int) : d * 1000003 + z + 13 - (d' * 1000003 + z + 13) = (d - d') * 1000003 := by
  rw [Int.sub_mul]; omega
theorem hstep_inj {d d' v : Int} (h0 : 0 ≤ d) (h1 : d < 2147483647) (h0' : 0 ≤ d') (h1' : d' < 2147483647) (e : hstep d v = hstep d' v) : d = d' := by
  unfold hstep at e
  have h3 := Int.emod_eq_emod_iff_emod_sub_eq_zero.1 e
  rw [same] at h3
  obtain ⟨t, ht⟩ := Int.dvd_of_emod_eq_zero h3
  have := small (d - d') _ (lin ht) (by clear e h3 ht; omega) (by clear e h3 ht; omega)
  clear e h3 ht
  omega
theorem Hs_inj : ∀ (l : List Int) (d d' : Int), 0 ≤ d → d < 2147483647 → 0 ≤ d' → d' < 2147483647 → Hs d l = Hs d' l → d = d' := by
  intro l
  induction l with
  | nil => intro d d' _ _ _ _ e; exact e
  | cons v l ih =>
    intro d d' h0 h1 h0' h1' e
    exact hstep_inj h0 h1 h0' h1' (ih _ _ (hstep_range d v).1 (hstep_range d v).2 (hstep_range d' v).1 (hstep_range d' v).2 e)
theorem Hs_change (v : Int) (r : List Int) : ∀ (l : List Int) (j : Nat) (hj : j < l.length) (d : Int), v % 2147483647 ≠ l[j] % 2147483647 → Hs d (l.set j v ++ r) ≠ Hs d (l ++ r) := by
  intro l
  induction l with
  | nil => intro j hj; simp at hj
  | cons x l ih =>
    intro j hj d hne e
    cases j with
    | zero =>
      have e1 : Hs (hstep d v) (l ++ r) = Hs (hstep d x) (l ++ r) := e
      have e2 := Hs_inj _ _ _ (hstep_range d v).1 (hstep_range d v).2 (hstep_range d x).1 (hstep_range d x).2 e1
      have hne' : v % 2147483647 ≠ x % 2147483647 := hne
      unfold hstep at e2
      generalize d * 1000003 = w at e2
      omega
    | succ j =>
      have hj' : j < l.length := by simpa using hj
      exact ih j hj' (hstep d x) (by simpa using hne) e
theorem KH_change (a : Int) (l : List Int) {j : Nat} (hj : j < l.length) {v : Int} (h : v % 2147483647 ≠ l[j] % 2147483647) : KH a (l.set j v) ≠ KH a l :=
  Hs_change v [a] l j hj (hstep 11 a) h
theorem proved : laws_FnKeyedHash.Pure := by
  intro l0 _ _ hb
  obtain ⟨K, hK⟩ : ∃ K : Nat, 1000000000 ≤ K := ⟨_, Nat.le_refl _⟩
  refine ⟨K, ?_⟩
  unfold laws_FnKeyedHash.f
  rw [laws_big_eq]; simp only [Option.bind_some]
  by_cases hl : (l0.length : Int) > 1048576
  · rw [if_pos (by simpa using hl)]
  rw [if_neg (by simpa using hl)]
  obtain ⟨a, x, e, hx, hr⟩ := spec_DrawKeyedHash_ok (k := K) l0 (by omega) (by omega)
  rw [e]; simp only [Option.bind_some]
  have hk := KH_range a x
  rw [impl_KeyedHash_eq a x (by omega) (by omega)]; simp only [Option.bind_some]
  have eh : impl_Hash.f K (([a] ++ x) ++ [a]) = some (KH a x) := by
    rw [impl_Hash_eq _ (by simp; omega) (by simp; omega)]; rfl
  rw [if_neg (by omega), if_neg (by omega), if_pos (by simp; omega), if_pos (by simp; omega), eh]; simp only [Option.bind_some]
  rw [bne_self_eq_false]
  have hd : ∀ k, 200000000 ≤ k → ((spec_DrawDeriveFromString.f k l0).bind fun bt257 => ((impl_DeriveFromString.f k bt257.1 bt257.2).bind fun t259 => ((impl_IsValidKey.f t259).bind fun t260 => (some t260)))) = some true := by
    intro k hk
    obtain ⟨b, s, e, hs⟩ := spec_DrawDeriveFromString_ok (k := k) l0 (by omega) (by omega)
    have hr := DS_range b s
    rw [e]; simp only [Option.bind_some]
    rw [impl_DeriveFromString_eq (by omega) b s (by omega)]; simp only [Option.bind_some]
    rw [impl_IsValidKey_eq, decide_eq_true hr]; rfl
  obtain ⟨k, rfl⟩ : ∃ j, K = j + 1 := ⟨K - 1, by omega⟩
  simp only [laws_FnKeyedHash.j0, Option.bind_some]
  rw [if_neg (by simp)]
  by_cases h0 : (x.length : Int) > 0
  · obtain ⟨t, et, t0, t1⟩ := laws_at_ok l0 hb (by omega) 0 (by omega) (by omega)
    obtain ⟨u, eu, u0, u1⟩ := laws_at_ok l0 hb (by omega) 1 (by omega) (by omega)
    rw [if_pos h0, if_pos (by simp; omega), List.nil_append, et]; simp only [Option.bind_some]
    have em : Int.tmod t (x.length : Int) = t % (x.length : Int) := Int.tmod_eq_emod_of_nonneg t0
    have m0 : 0 ≤ t % (x.length : Int) := Int.emod_nonneg _ (by omega)
    have m1 : t % (x.length : Int) < (x.length : Int) := Int.emod_lt_of_pos _ (by omega)
    rw [em]
    generalize t % (x.length : Int) = z at *
    obtain ⟨j, rfl⟩ := Int.eq_ofNat_of_zero_le m0
    have hj : j < x.length := by omega
    have hv := hr _ (List.getElem_mem hj)
    rw [if_neg (by omega), if_pos (by omega), if_pos (by omega), eu]; simp only [Option.bind_some]
    rw [rd_at hj, w64 (n := x[j] + 1) (by omega) (by omega), w64 (by omega) (by omega), spec_Mod_eq _ _ (by omega) (by omega)]; simp only [Option.bind_some]
    rw [impl_KeyedHash_eq a _ (by rw [List.length_set]; omega) (by rw [List.length_set]; omega)]; simp only [Option.bind_some]
    have hz : (x[j] + 1 + u) % 2147483647 % 2147483647 ≠ x[j] % 2147483647 := by omega
    rw [Int.toNat_natCast, if_neg (KH_change a x hj hz)]
    exact hd k (by omega)
  · rw [if_neg h0]
    exact hd k (by omega)
end KFnKeyedHash
theorem FnKeyedHash : laws_FnKeyedHash.Pure := KFnKeyedHash.proved
end Go.Proofs.Ytgaodlegjpbcaaa.Pure
