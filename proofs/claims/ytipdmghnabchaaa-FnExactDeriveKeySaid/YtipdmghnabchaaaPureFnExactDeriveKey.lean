/- the program's DeriveKey answers as the reference's and leaves its arguments alone. -/
import Derived.Test.YtipdmghnabchaaaPFnExactDeriveKeyx2
import Derived.Test.YtipdmghnabchaaaNum
set_option linter.unusedVariables false
set_option linter.unusedSimpArgs false
namespace Go.Proofs.Ytipdmghnabchaaa.Pure
open Go.RowKit Go.Proofs.Ytipdmghnabchaaa.PFnExactDeriveKey Go.Proofs.YtipdmghnabchaaaW.PrintWords Go.Proofs.YtipdmghnabchaaaW.PrintLast Go.Proofs.Ytipdmghnabchaaa.Num
namespace KFnExactDeriveKey
theorem spec_l1In_eq (a b c : Int) : spec_l1In.f a b c = some (decide (b ≤ a ∧ a ≤ c)) := by
  unfold spec_l1In.f
  by_cases h : b ≤ a
  · rw [if_pos h]; simp [h]
  · rw [if_neg (by omega)]; simp [h]
theorem spec_Mod_eq (a m : Int) (h1 : 1 ≤ m) (h2 : m ≤ 1000000000000) : spec_Mod.f a m = some (a % m) := by
  unfold spec_Mod.f
  rw [spec_l1In_eq]; simp only [Option.bind_some]
  rw [if_pos (by simp; omega), if_neg (by omega), tmod_fix h1 h2]
theorem spec_Mod_out (a m : Int) (h : ¬ (1 ≤ m ∧ m ≤ 1000000000000)) : spec_Mod.f a m = some 0 := by
  unfold spec_Mod.f
  rw [spec_l1In_eq]; simp only [Option.bind_some]
  rw [if_neg (by simpa using h)]
theorem spec_Hash_l0 (l : List Int) (hl : l.length ≤ 4611686018427387904) : ∀ (j k i : Nat) (d : Int), l.length - i ≤ j → j < k → 0 ≤ d → d < 2147483647 → spec_Hash.l0 k l d (i : Int) = some (Hs d (l.drop i)) := by
  intro j
  induction j with
  | zero =>
    intro k i d hi hk h0 h1
    obtain ⟨k, rfl⟩ : ∃ m, k = m + 1 := ⟨k - 1, by omega⟩
    simp only [spec_Hash.l0]
    rw [if_neg (by omega), List.drop_eq_nil_of_le (by omega)]; rfl
  | succ j ih =>
    intro k i d hi hk h0 h1
    obtain ⟨k, rfl⟩ : ∃ m, k = m + 1 := ⟨k - 1, by omega⟩
    simp only [spec_Hash.l0]
    by_cases h : i < l.length
    · rw [if_pos (by omega), if_pos (by omega), spec_Mod_eq _ 2147483647 (by omega) (by omega)]; simp only [Option.bind_some]
      rw [rd_at h, hstep_go h0 h1, nxt (by omega), ih k (i + 1) _ (by omega) (by omega) (hstep_range _ _).1 (hstep_range _ _).2, Hs_drop d h]
    · rw [if_neg (by omega), List.drop_eq_nil_of_le (by omega)]; rfl
theorem spec_Hash_eq {k : Nat} (l : List Int) (hl : l.length ≤ 4611686018427387904) (hk : l.length < k) : spec_Hash.f k l = some (Hs 11 l) := by
  unfold spec_Hash.f
  exact spec_Hash_l0 l hl l.length k 0 11 (by omega) hk (by omega) (by omega)
theorem spec_KeyedHash_eq {k : Nat} (a : Int) (l : List Int) (hl : l.length ≤ 1000000000000) (hk : l.length + 2 < k) : spec_KeyedHash.f k a l = some (KH a l) := by
  unfold spec_KeyedHash.f
  simp only [Option.bind_some]
  rw [if_pos (by simp; omega), if_pos (by simp; omega), spec_Hash_eq _ (by simp; omega) (by simp; omega)]; rfl
theorem spec_Max_one {h : Int} (h0 : 0 ≤ h) : spec_Max.f 1 h = some (if h = 0 then 1 else h) := by
  unfold spec_Max.f
  by_cases e : h = 0
  · rw [if_pos e, if_neg (by omega)]
  · rw [if_neg e]
    by_cases e1 : h > 1
    · rw [if_pos e1]
    · rw [if_neg e1]; congr 1; omega
theorem spec_DeriveKey_eq {k : Nat} (a : Int) (m : List Int) (hm : m.length ≤ 1000000000) (hk : m.length + 10 < k) : spec_DeriveKey.f k a m = some (if KH a (151 :: m) = 0 then 1 else KH a (151 :: m)) := by
  unfold spec_DeriveKey.f
  simp only [Option.bind_some]
  rw [if_pos (by simp; omega), spec_KeyedHash_eq _ _ (by simp; omega) (by simp; omega)]; simp only [Option.bind_some]
  rw [spec_Max_one (KH_range _ _).1]; rfl
theorem laws_toIntS_l0 (l : List Int) (hl : l.length ≤ 4611686018427387904) : ∀ (j k i : Nat) (x : List Int), l.length - i ≤ j → j < k → x.length = l.length → (∀ p, p < i → x[p]? = l[p]?) → laws_toIntS.l0 k l x (i : Int) = some l := by
  intro j
  induction j with
  | zero =>
    intro k i x hi hk hx hp
    obtain ⟨k, rfl⟩ : ∃ m, k = m + 1 := ⟨k - 1, by omega⟩
    simp only [laws_toIntS.l0]
    rw [if_neg (by omega)]
    congr 1
    apply List.ext_getElem?
    intro p
    by_cases h : p < i
    · exact hp p h
    · rw [List.getElem?_eq_none (by omega), List.getElem?_eq_none (by omega)]
  | succ j ih =>
    intro k i x hi hk hx hp
    obtain ⟨k, rfl⟩ : ∃ m, k = m + 1 := ⟨k - 1, by omega⟩
    simp only [laws_toIntS.l0]
    by_cases h : i < l.length
    · rw [if_pos (by omega), if_pos (by omega), if_pos (by omega), nxt (by omega), rd_at h]
      refine ih k (i + 1) _ (by omega) (by omega) (by rw [List.length_set]; exact hx) (fun p hpi => ?_)
      rw [show ((i : Int)).toNat = i from rfl, List.getElem?_set]
      by_cases e : i = p
      · subst e
        rw [if_pos (by simp), if_pos (by omega), List.getElem?_eq_getElem h]
      · rw [if_neg e]
        exact hp p (by omega)
    · rw [if_neg (by omega)]
      congr 1
      apply List.ext_getElem?
      intro p
      by_cases h : p < i
      · exact hp p h
      · rw [List.getElem?_eq_none (by omega), List.getElem?_eq_none (by omega)]
theorem laws_toIntS_eq {k : Nat} (l : List Int) (hl : l.length ≤ 1048576) (hk : 1048576 < k) : laws_toIntS.f k l = some l := by
  unfold laws_toIntS.f
  rw [if_pos (by omega), if_pos (by omega)]
  exact laws_toIntS_l0 l (by omega) l.length k 0 _ (by omega) (by omega) (by simp) (fun p hp => by omega)
theorem impl_joined_l0 (L : List (List Int)) (hL : L.length ≤ 1000) : ∀ (j k i : Nat) (x : List Int), L.length - i ≤ j → j < k → (x ++ (L.drop i).flatten).length < 17592186044416 → impl_joined.l0 k x L (L.length : Int) (i : Int) = some (x ++ (L.drop i).flatten) := by
  intro j
  induction j with
  | zero =>
    intro k i x hi hk hx
    obtain ⟨k, rfl⟩ : ∃ m, k = m + 1 := ⟨k - 1, by omega⟩
    simp only [impl_joined.l0]
    rw [if_neg (by omega), List.drop_eq_nil_of_le (by omega)]; simp
  | succ j ih =>
    intro k i x hi hk hx
    obtain ⟨k, rfl⟩ : ∃ m, k = m + 1 := ⟨k - 1, by omega⟩
    simp only [impl_joined.l0]
    by_cases h : i < L.length
    · have e : rd_L1 L (i : Int) = L[i] := by
        unfold rd_L1
        simp [List.getD_eq_getElem?_getD, h]
      rw [List.drop_eq_getElem_cons h, List.flatten_cons, ← List.append_assoc] at hx ⊢
      have hx' : (x ++ L[i]).length < 17592186044416 := by
        rw [List.length_append] at hx; omega
      rw [if_pos (by omega), if_pos (by omega), if_pos (by omega), e, if_pos (by rw [← List.length_append]; exact hx'), nxt (by omega)]
      exact ih k (i + 1) _ (by omega) (by omega) hx
    · rw [if_neg (by omega), List.drop_eq_nil_of_le (by omega)]; simp
theorem impl_joined_eq {k : Nat} (x : List Int) (L : List (List Int)) (hL : L.length ≤ 1000) (hk : L.length < k) (h : (x ++ L.flatten).length < 17592186044416) : impl_joined.f k x L = some (x ++ L.flatten) := by
  unfold impl_joined.f
  simp only [Option.bind_some]
  rw [if_pos (by rw [List.length_append] at h; simp; omega), List.nil_append]
  exact impl_joined_l0 L hL L.length k 0 x (by omega) hk h
theorem impl_Mod_eq {k : Nat} (hk : 0 < k) (a m : Int) (h1 : 1 ≤ m) (h2 : m ≤ 1000000000000) : impl_Mod.f k a m = some (a % m) := by
  obtain ⟨k, rfl⟩ : ∃ j, k = j + 1 := ⟨k - 1, by omega⟩
  unfold impl_Mod.f
  rw [if_neg (by omega)]
  simp only [impl_Mod.j0]
  rw [if_neg (by simp; omega), if_neg (by omega), tmod_two a m h1 h2]
theorem impl_Mod_out {k : Nat} (hk : 0 < k) (a m : Int) (h : ¬ (1 ≤ m ∧ m ≤ 1000000000000)) : impl_Mod.f k a m = some 0 := by
  obtain ⟨k, rfl⟩ : ∃ j, k = j + 1 := ⟨k - 1, by omega⟩
  unfold impl_Mod.f
  by_cases h1 : m < 1
  · rw [if_pos h1]
    simp only [impl_Mod.j0]
    rw [if_pos (by simp)]
  · rw [if_neg h1]
    simp only [impl_Mod.j0]
    rw [if_pos (by simp; omega)]
theorem impl_Hash_l0 (l : List Int) (hl : l.length ≤ 4611686018427387904) : ∀ (j k i : Nat) (d : Int), l.length - i ≤ j → j < k → 0 ≤ d → d < 2147483647 → impl_Hash.l0 k d l (l.length : Int) (i : Int) = some (Hs d (l.drop i)) := by
  intro j
  induction j with
  | zero =>
    intro k i d hi hk h0 h1
    obtain ⟨k, rfl⟩ : ∃ m, k = m + 1 := ⟨k - 1, by omega⟩
    simp only [impl_Hash.l0]
    rw [if_neg (by omega), List.drop_eq_nil_of_le (by omega)]; rfl
  | succ j ih =>
    intro k i d hi hk h0 h1
    obtain ⟨k, rfl⟩ : ∃ m, k = m + 1 := ⟨k - 1, by omega⟩
    simp only [impl_Hash.l0]
    by_cases h : i < l.length
    · rw [if_pos (by omega), if_pos (by omega), if_pos (by omega), impl_Mod_eq (by omega) _ 2147483647 (by omega) (by omega)]; simp only [Option.bind_some]
      rw [rd_at h, hstep_go h0 h1, nxt (by omega), ih k (i + 1) _ (by omega) (by omega) (hstep_range _ _).1 (hstep_range _ _).2, Hs_drop d h]
    · rw [if_neg (by omega), List.drop_eq_nil_of_le (by omega)]; rfl
theorem impl_Hash_eq {k : Nat} (l : List Int) (hl : l.length ≤ 4611686018427387904) (hk : l.length < k) : impl_Hash.f k l = some (Hs 11 l) := by
  unfold impl_Hash.f
  exact impl_Hash_l0 l hl l.length k 0 11 (by omega) hk (by omega) (by omega)
theorem impl_KeyedHash_eq {k : Nat} (a : Int) (l : List Int) (hl : l.length ≤ 1000000000000) (hk : l.length + 2 < k) : impl_KeyedHash.f k a l = some (KH a l) := by
  unfold impl_KeyedHash.f
  rw [impl_joined_eq _ _ (by simp) (by simp; omega) (by simp; omega)]; simp only [Option.bind_some]
  rw [impl_Hash_eq _ (by simp; omega) (by simp; omega)]
  simp only [Option.bind_some]
  congr 2
theorem impl_orOne_eq (h : Int) : impl_orOne.f h = some (if h = 0 then 1 else h) := by
  unfold impl_orOne.f
  by_cases e : h = 0
  · rw [if_pos e, if_pos e]
  · rw [if_neg e, if_neg e]
theorem impl_DeriveKey_eq {k : Nat} (a : Int) (m : List Int) (hm : m.length ≤ 1000000000) (hk : m.length + 10 < k) : impl_DeriveKey.f k a m = some (if KH a (151 :: m) = 0 then 1 else KH a (151 :: m)) := by
  unfold impl_DeriveKey.f
  rw [impl_joined_eq _ _ (by simp) (by simp; omega) (by simp; omega)]; simp only [Option.bind_some]
  rw [impl_KeyedHash_eq _ _ (by simp; omega) (by simp; omega)]; simp only [Option.bind_some]
  rw [impl_orOne_eq]; simp
theorem laws_eqIntS_l0 (a b : List Int) (hl : a.length = b.length) (hm : a.length ≤ 4611686018427387904) : ∀ (j k i : Nat), a.length - i ≤ j → j < k → laws_eqIntS.l0 k a b (i : Int) = some (decide (a.drop i = b.drop i)) := by
  intro j
  induction j with
  | zero =>
    intro k i hi hk
    obtain ⟨k, rfl⟩ : ∃ m, k = m + 1 := ⟨k - 1, by omega⟩
    simp only [laws_eqIntS.l0]
    rw [if_neg (by omega), List.drop_eq_nil_of_le (by omega), List.drop_eq_nil_of_le (by omega)]; simp
  | succ j ih =>
    intro k i hi hk
    obtain ⟨k, rfl⟩ : ∃ m, k = m + 1 := ⟨k - 1, by omega⟩
    simp only [laws_eqIntS.l0]
    by_cases h : i < a.length
    · have hb : i < b.length := by omega
      rw [if_pos (by omega), if_pos (by omega), if_pos (by omega), nxt (by omega), rd_at h, rd_at hb, ih k (i + 1) (by omega) (by omega), List.drop_eq_getElem_cons h, List.drop_eq_getElem_cons hb]
      by_cases e : a[i] = b[i]
      · rw [if_pos e]; congr 1; rw [decide_eq_decide]; exact ⟨fun h1 => by rw [e, h1], fun h1 => (List.cons.inj h1).2⟩
      · rw [if_neg e]; congr 1; symm; rw [decide_eq_false_iff_not]; exact fun h1 => e (List.cons.inj h1).1
    · rw [if_neg (by omega), List.drop_eq_nil_of_le (by omega), List.drop_eq_nil_of_le (by omega)]; simp
theorem laws_eqIntS_eq {k : Nat} (a b : List Int) (hm : a.length ≤ 4611686018427387904) (hk : a.length < k) : laws_eqIntS.f k a b = some (decide (a = b)) := by
  unfold laws_eqIntS.f
  by_cases h : a.length = b.length
  · rw [if_pos (by omega)]
    exact laws_eqIntS_l0 a b h hm a.length k 0 (by omega) hk
  · rw [if_neg (by omega)]
    have : a ≠ b := fun e => h (by rw [e])
    simp [this]
theorem laws_eqIntS_self {k : Nat} (a : List Int) (hm : a.length ≤ 1048576) (hk : 1048576 < k) : laws_eqIntS.f k a a = some true := by
  rw [laws_eqIntS_eq a a (by omega) (by omega)]; simp
theorem proved : laws_FnExactDeriveKey.Pure := by
  intro a0 l1 _ _ _ _
  obtain ⟨K, hK⟩ : ∃ K : Nat, 1000000000 ≤ K := ⟨_, Nat.le_refl _⟩
  refine ⟨K, ?_⟩
  unfold laws_FnExactDeriveKey.f
  rcases Nat.lt_or_ge 1048576 l1.length with h_l1 | h_l1
  · rw [if_pos (by omega)]
  rw [if_neg (by omega)]
  simp only [laws_toIntS_eq l1 h_l1 (show 1048576 < K by omega), laws_eqIntS_self l1 h_l1 (show 1048576 < K by omega), spec_DeriveKey_eq a0 l1 (show _ ≤ _ by omega) (show _ < K by omega), impl_DeriveKey_eq a0 l1 (show _ ≤ _ by omega) (show _ < K by omega), Option.bind_some]
  simp
end KFnExactDeriveKey
theorem FnExactDeriveKey : laws_FnExactDeriveKey.Pure := KFnExactDeriveKey.proved
end Go.Proofs.Ytipdmghnabchaaa.Pure
