/- the program's DeriveFromString answers as the reference's, for all arguments. -/
import Derived.Test.YtgaodlegjpbcaaaPFnExactDeriveFromStringx2
import Derived.Test.YtgaodlegjpbcaaaNum3
set_option linter.unusedVariables false
set_option linter.unusedSimpArgs false
namespace Go.Proofs.Ytgaodlegjpbcaaa.Pure
open Go.RowKit Go.Proofs.Ytgaodlegjpbcaaa.PFnExactDeriveFromString Go.Proofs.YtgaodlegjpbcaaaW.PrintWords Go.Proofs.YtgaodlegjpbcaaaW.PrintLast Go.Proofs.Ytgaodlegjpbcaaa.Num
namespace KFnExactDeriveFromString
theorem BL_range (s : ByteArray) : ∀ x ∈ BL s, 0 ≤ x ∧ x ≤ 255 := by
  intro x hx
  unfold BL at hx
  obtain ⟨b, _, rfl⟩ := List.mem_map.1 hx
  have := b.toNat_lt
  omega
def DS (a : Int) (s : ByteArray) : Int := OO (KH a ((s.size : Int) :: BL s))
theorem DS_range (a : Int) (s : ByteArray) : 1 ≤ DS a s ∧ DS a s ≤ 2147483646 := by
  have := KH_range a ((s.size : Int) :: BL s)
  unfold DS OO
  split <;> omega
theorem spec_l1In_eq (a b c : Int) : spec_l1In.f a b c = some (decide (b ≤ a ∧ a ≤ c)) := by
  unfold spec_l1In.f
  by_cases h : b ≤ a
  · rw [if_pos h]; simp [h]
  · rw [if_neg (by omega)]; simp [h]
theorem spec_Mod_eq (a m : Int) (h1 : 1 ≤ m) (h2 : m ≤ 1000000000000) : spec_Mod.f a m = some (a % m) := by
  unfold spec_Mod.f
  rw [spec_l1In_eq]; simp only [Option.bind_some]
  rw [if_pos (by simp; omega), if_neg (by omega), tmod_fix h1 h2]
theorem spec_Mod_out (a m : Int) (h : ¬ (1 ≤ m ∧ m ≤ 1000000000000)) : spec_Mod.f a m = some 0 := by
  unfold spec_Mod.f
  rw [spec_l1In_eq]; simp only [Option.bind_some]
  rw [if_neg (by simpa using h)]
theorem spec_Hash_l0 (l : List Int) (hl : l.length ≤ 4611686018427387904) : ∀ (j k i : Nat) (d : Int), l.length - i ≤ j → j < k → 0 ≤ d → d < 2147483647 → spec_Hash.l0 k l d (i : Int) = some (Hs d (l.drop i)) := by
  intro j
  induction j with
  | zero =>
    intro k i d hi hk h0 h1
    obtain ⟨k, rfl⟩ : ∃ m, k = m + 1 := ⟨k - 1, by omega⟩
    simp only [spec_Hash.l0]
    rw [if_neg (by omega), List.drop_eq_nil_of_le (by omega)]; rfl
  | succ j ih =>
    intro k i d hi hk h0 h1
    obtain ⟨k, rfl⟩ : ∃ m, k = m + 1 := ⟨k - 1, by omega⟩
    simp only [spec_Hash.l0]
    by_cases h : i < l.length
    · rw [if_pos (by omega), if_pos (by omega), spec_Mod_eq _ 2147483647 (by omega) (by omega)]; simp only [Option.bind_some]
      rw [rd_at h, hstep_go h0 h1, nxt (by omega), ih k (i + 1) _ (by omega) (by omega) (hstep_range _ _).1 (hstep_range _ _).2, Hs_drop d h]
    · rw [if_neg (by omega), List.drop_eq_nil_of_le (by omega)]; rfl
theorem spec_Hash_eq {k : Nat} (l : List Int) (hl : l.length ≤ 4611686018427387904) (hk : l.length < k) : spec_Hash.f k l = some (Hs 11 l) := by
  unfold spec_Hash.f
  exact spec_Hash_l0 l hl l.length k 0 11 (by omega) hk (by omega) (by omega)
theorem spec_KeyedHash_eq {k : Nat} (a : Int) (l : List Int) (hl : l.length ≤ 1000000000000) (hk : l.length + 2 < k) : spec_KeyedHash.f k a l = some (KH a l) := by
  unfold spec_KeyedHash.f
  simp only [Option.bind_some]
  rw [if_pos (by simp; omega), if_pos (by simp; omega), spec_Hash_eq _ (by simp; omega) (by simp; omega)]; rfl
theorem spec_BytesToInts_l0 (l : List Int) (hb : ∀ x ∈ l, 0 ≤ x ∧ x ≤ 255) (hl : l.length ≤ 1000000000) : ∀ (j k i : Nat) (x : List Int), l.length - i ≤ j → j < k → x.length + (l.length - i) ≤ 2000000000 → spec_BytesToInts.l0 k l x (i : Int) = some (x ++ l.drop i) := by
  intro j
  induction j with
  | zero =>
    intro k i x hi hk hx
    obtain ⟨k, rfl⟩ : ∃ m, k = m + 1 := ⟨k - 1, by omega⟩
    simp only [spec_BytesToInts.l0]
    rw [if_neg (by omega), List.drop_eq_nil_of_le (by omega), List.append_nil]
  | succ j ih =>
    intro k i x hi hk hx
    obtain ⟨k, rfl⟩ : ∃ m, k = m + 1 := ⟨k - 1, by omega⟩
    simp only [spec_BytesToInts.l0]
    by_cases h : i < l.length
    · have hv := hb _ (List.getElem_mem h)
      rw [if_pos (by omega), if_pos (by omega), if_pos (by omega), rd_at h, w64 (n := l[i]) (by omega) (by omega), nxt (by omega), ih k (i + 1) _ (by omega) (by omega) (by simp; omega), List.drop_eq_getElem_cons h, List.append_assoc]; rfl
    · rw [if_neg (by omega), List.drop_eq_nil_of_le (by omega), List.append_nil]
theorem spec_BytesToInts_eq {k : Nat} (l : List Int) (hb : ∀ x ∈ l, 0 ≤ x ∧ x ≤ 255) (hl : l.length ≤ 1000000000) (hk : l.length < k) : spec_BytesToInts.f k l = some ((l.length : Int) :: l) := by
  unfold spec_BytesToInts.f
  exact spec_BytesToInts_l0 l hb hl l.length k 0 _ (by omega) hk (by simp; omega)
theorem spec_Max_one {h : Int} (h0 : 0 ≤ h) : spec_Max.f 1 h = some (if h = 0 then 1 else h) := by
  unfold spec_Max.f
  by_cases e : h = 0
  · rw [if_pos e, if_neg (by omega)]
  · rw [if_neg e]
    by_cases e1 : h > 1
    · rw [if_pos e1]
    · rw [if_neg e1]; congr 1; omega
theorem spec_DeriveFromString_eq {k : Nat} (hk : 100000000 ≤ k) (a : Int) (s : ByteArray) (hs : s.size ≤ 1048576) : spec_DeriveFromString.f k a s = some (DS a s) := by
  have hl := BL_length s
  have hr := KH_range a ((s.size : Int) :: BL s)
  unfold spec_DeriveFromString.f
  rw [if_pos (by omega), spec_BytesToInts_eq (BL s) (BL_range s) (by omega) (by omega)]; simp only [Option.bind_some]
  rw [hl, spec_KeyedHash_eq a _ (by rw [List.length_cons]; omega) (by rw [List.length_cons]; omega)]; simp only [Option.bind_some]
  rw [spec_Max_one hr.1]; rfl
theorem impl_Mod_eq {k : Nat} (hk : 0 < k) (a m : Int) (h1 : 1 ≤ m) (h2 : m ≤ 1000000000000) : impl_Mod.f k a m = some (a % m) := by
  obtain ⟨k, rfl⟩ : ∃ j, k = j + 1 := ⟨k - 1, by omega⟩
  unfold impl_Mod.f
  rw [if_neg (by omega)]
  simp only [impl_Mod.j0]
  rw [if_neg (by simp; omega), if_neg (by omega), tmod_two a m h1 h2]
theorem impl_Mod_out {k : Nat} (hk : 0 < k) (a m : Int) (h : ¬ (1 ≤ m ∧ m ≤ 1000000000000)) : impl_Mod.f k a m = some 0 := by
  obtain ⟨k, rfl⟩ : ∃ j, k = j + 1 := ⟨k - 1, by omega⟩
  unfold impl_Mod.f
  by_cases h1 : m < 1
  · rw [if_pos h1]
    simp only [impl_Mod.j0]
    rw [if_pos (by simp)]
  · rw [if_neg h1]
    simp only [impl_Mod.j0]
    rw [if_pos (by simp; omega)]
theorem impl_Hash_l0 (l : List Int) (hl : l.length ≤ 4611686018427387904) : ∀ (j k i : Nat) (d : Int), l.length - i ≤ j → j < k → 0 ≤ d → d < 2147483647 → impl_Hash.l0 k d l (l.length : Int) (i : Int) = some (Hs d (l.drop i)) := by
  intro j
  induction j with
  | zero =>
    intro k i d hi hk h0 h1
    obtain ⟨k, rfl⟩ : ∃ m, k = m + 1 := ⟨k - 1, by omega⟩
    simp only [impl_Hash.l0]
    rw [if_neg (by omega), List.drop_eq_nil_of_le (by omega)]; rfl
  | succ j ih =>
    intro k i d hi hk h0 h1
    obtain ⟨k, rfl⟩ : ∃ m, k = m + 1 := ⟨k - 1, by omega⟩
    simp only [impl_Hash.l0]
    by_cases h : i < l.length
    · rw [if_pos (by omega), if_pos (by omega), if_pos (by omega), impl_Mod_eq (by omega) _ 2147483647 (by omega) (by omega)]; simp only [Option.bind_some]
      rw [rd_at h, hstep_go h0 h1, nxt (by omega), ih k (i + 1) _ (by omega) (by omega) (hstep_range _ _).1 (hstep_range _ _).2, Hs_drop d h]
    · rw [if_neg (by omega), List.drop_eq_nil_of_le (by omega)]; rfl
theorem impl_Hash_eq {k : Nat} (l : List Int) (hl : l.length ≤ 4611686018427387904) (hk : l.length < k) : impl_Hash.f k l = some (Hs 11 l) := by
  unfold impl_Hash.f
  exact impl_Hash_l0 l hl l.length k 0 11 (by omega) hk (by omega) (by omega)
theorem impl_joined_l0 (L : List (List Int)) (hL : L.length ≤ 1000) : ∀ (j k i : Nat) (x : List Int), L.length - i ≤ j → j < k → (x ++ (L.drop i).flatten).length < 17592186044416 → impl_joined.l0 k x L (L.length : Int) (i : Int) = some (x ++ (L.drop i).flatten) := by
  intro j
  induction j with
  | zero =>
    intro k i x hi hk hx
    obtain ⟨k, rfl⟩ : ∃ m, k = m + 1 := ⟨k - 1, by omega⟩
    simp only [impl_joined.l0]
    rw [if_neg (by omega), List.drop_eq_nil_of_le (by omega)]; simp
  | succ j ih =>
    intro k i x hi hk hx
    obtain ⟨k, rfl⟩ : ∃ m, k = m + 1 := ⟨k - 1, by omega⟩
    simp only [impl_joined.l0]
    by_cases h : i < L.length
    · have e : rd_L2 L (i : Int) = L[i] := by
        unfold rd_L2
        simp [List.getD_eq_getElem?_getD, h]
      rw [List.drop_eq_getElem_cons h, List.flatten_cons, ← List.append_assoc] at hx ⊢
      have hx' : (x ++ L[i]).length < 17592186044416 := by
        rw [List.length_append] at hx; omega
      rw [if_pos (by omega), if_pos (by omega), if_pos (by omega), e, if_pos (by rw [← List.length_append]; exact hx'), nxt (by omega)]
      exact ih k (i + 1) _ (by omega) (by omega) hx
    · rw [if_neg (by omega), List.drop_eq_nil_of_le (by omega)]; simp
theorem impl_joined_eq {k : Nat} (x : List Int) (L : List (List Int)) (hL : L.length ≤ 1000) (hk : L.length < k) (h : (x ++ L.flatten).length < 17592186044416) : impl_joined.f k x L = some (x ++ L.flatten) := by
  unfold impl_joined.f
  simp only [Option.bind_some]
  rw [if_pos (by rw [List.length_append] at h; simp; omega), List.nil_append]
  exact impl_joined_l0 L hL L.length k 0 x (by omega) hk h
theorem impl_KeyedHash_eq {k : Nat} (a : Int) (l : List Int) (hl : l.length ≤ 1000000000000) (hk : l.length + 2 < k) : impl_KeyedHash.f k a l = some (KH a l) := by
  unfold impl_KeyedHash.f
  rw [impl_joined_eq _ _ (by simp) (by simp; omega) (by simp; omega)]; simp only [Option.bind_some]
  rw [impl_Hash_eq _ (by simp; omega) (by simp; omega)]
  simp only [Option.bind_some]
  congr 2
theorem impl_BytesToInts_l0 (l : List Int) (hb : ∀ x ∈ l, 0 ≤ x ∧ x ≤ 255) (hl : l.length ≤ 1000000000) : ∀ (j k i : Nat) (x : List Int), l.length - i ≤ j → j < k → x.length + (l.length - i) ≤ 2000000000 → impl_BytesToInts.l0 k x l (l.length : Int) (i : Int) = some (x ++ l.drop i) := by
  intro j
  induction j with
  | zero =>
    intro k i x hi hk hx
    obtain ⟨k, rfl⟩ : ∃ m, k = m + 1 := ⟨k - 1, by omega⟩
    simp only [impl_BytesToInts.l0]
    rw [if_neg (by omega), List.drop_eq_nil_of_le (by omega), List.append_nil]
  | succ j ih =>
    intro k i x hi hk hx
    obtain ⟨k, rfl⟩ : ∃ m, k = m + 1 := ⟨k - 1, by omega⟩
    simp only [impl_BytesToInts.l0]
    by_cases h : i < l.length
    · have hv := hb _ (List.getElem_mem h)
      rw [if_pos (by omega), if_pos (by omega), if_pos (by omega), if_pos (by omega), rd_at h, w64 (n := l[i]) (by omega) (by omega), nxt (by omega), ih k (i + 1) _ (by omega) (by omega) (by simp; omega), List.drop_eq_getElem_cons h, List.append_assoc]; rfl
    · rw [if_neg (by omega), List.drop_eq_nil_of_le (by omega), List.append_nil]
theorem impl_BytesToInts_eq {k : Nat} (l : List Int) (hb : ∀ x ∈ l, 0 ≤ x ∧ x ≤ 255) (hl : l.length ≤ 1000000000) (hk : l.length < k) : impl_BytesToInts.f k l = some ((l.length : Int) :: l) := by
  unfold impl_BytesToInts.f
  exact impl_BytesToInts_l0 l hb hl l.length k 0 _ (by omega) hk (by simp; omega)
theorem impl_orOne_eq (h : Int) : impl_orOne.f h = some (if h = 0 then 1 else h) := by
  unfold impl_orOne.f
  by_cases e : h = 0
  · rw [if_pos e, if_pos e]
  · rw [if_neg e, if_neg e]
theorem impl_DeriveFromString_eq {k : Nat} (hk : 100000000 ≤ k) (a : Int) (s : ByteArray) (hs : s.size ≤ 1048576) : impl_DeriveFromString.f k a s = some (DS a s) := by
  have hl := BL_length s
  unfold impl_DeriveFromString.f
  rw [if_pos (by omega), impl_BytesToInts_eq (BL s) (BL_range s) (by omega) (by omega)]; simp only [Option.bind_some]
  rw [hl, impl_KeyedHash_eq a _ (by rw [List.length_cons]; omega) (by rw [List.length_cons]; omega)]; simp only [Option.bind_some]
  rw [impl_orOne_eq]; rfl
theorem proved : laws_FnExactDeriveFromString.Pure := by
  intro a0 a1 _ hmax
  refine ⟨100000000, ?_⟩
  unfold laws_FnExactDeriveFromString.f
  by_cases h : (a1.size : Int) > 1048576
  · rw [if_pos h]
  rw [if_neg h, spec_DeriveFromString_eq (Nat.le_refl _) a0 a1 (by omega)]; simp only [Option.bind_some]
  rw [impl_DeriveFromString_eq (Nat.le_refl _) a0 a1 (by omega)]; simp
end KFnExactDeriveFromString
theorem FnExactDeriveFromString : laws_FnExactDeriveFromString.Pure := KFnExactDeriveFromString.proved
end Go.Proofs.Ytgaodlegjpbcaaa.Pure
