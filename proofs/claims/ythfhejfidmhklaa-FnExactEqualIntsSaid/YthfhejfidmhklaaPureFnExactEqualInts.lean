/- the program's EqualInts answers as the reference's and leaves its arguments alone. -/
import Derived.Test.YthfhejfidmhklaaPFnExactEqualIntsx1
import Derived.Test.YthfhejfidmhklaaNum
set_option linter.unusedVariables false
set_option linter.unusedSimpArgs false
namespace Go.Proofs.Ythfhejfidmhklaa.Pure
open Go.RowKit Go.Proofs.Ythfhejfidmhklaa.PFnExactEqualInts Go.Proofs.YthfhejfidmhklaaW.PrintWords Go.Proofs.YthfhejfidmhklaaW.PrintLast Go.Proofs.Ythfhejfidmhklaa.Num
namespace KFnExactEqualInts
theorem spec_EqualInts_l0 (a b : List Int) (hl : a.length = b.length) (hm : a.length ≤ 4611686018427387904) : ∀ (j k i : Nat), a.length - i ≤ j → j < k → spec_EqualInts.l0 k a b (i : Int) = some (decide (a.drop i = b.drop i)) := by
  intro j
  induction j with
  | zero =>
    intro k i hi hk
    obtain ⟨k, rfl⟩ : ∃ m, k = m + 1 := ⟨k - 1, by omega⟩
    simp only [spec_EqualInts.l0]
    rw [if_neg (by omega), List.drop_eq_nil_of_le (by omega), List.drop_eq_nil_of_le (by omega)]; simp
  | succ j ih =>
    intro k i hi hk
    obtain ⟨k, rfl⟩ : ∃ m, k = m + 1 := ⟨k - 1, by omega⟩
    simp only [spec_EqualInts.l0]
    by_cases h : i < a.length
    · have hb : i < b.length := by omega
      rw [if_pos (by omega), if_pos (by omega), if_pos (by omega), nxt (by omega), rd_at h, rd_at hb, ih k (i + 1) (by omega) (by omega), List.drop_eq_getElem_cons h, List.drop_eq_getElem_cons hb]
      by_cases e : a[i] = b[i]
      · rw [if_pos e]; congr 1; rw [decide_eq_decide]; exact ⟨fun h1 => by rw [e, h1], fun h1 => (List.cons.inj h1).2⟩
      · rw [if_neg e]; congr 1; symm; rw [decide_eq_false_iff_not]; exact fun h1 => e (List.cons.inj h1).1
    · rw [if_neg (by omega), List.drop_eq_nil_of_le (by omega), List.drop_eq_nil_of_le (by omega)]; simp
theorem spec_EqualInts_eq {k : Nat} (a b : List Int) (hm : a.length ≤ 4611686018427387904) (hk : a.length < k) : spec_EqualInts.f k a b = some (decide (a = b)) := by
  unfold spec_EqualInts.f
  by_cases h : a.length = b.length
  · rw [if_pos (by omega)]
    exact spec_EqualInts_l0 a b h hm a.length k 0 (by omega) hk
  · rw [if_neg (by omega)]
    have : a ≠ b := fun e => h (by rw [e])
    simp [this]
theorem spec_EqualInts_self {k : Nat} (a : List Int) (hm : a.length ≤ 1048576) (hk : 1048576 < k) : spec_EqualInts.f k a a = some true := by
  rw [spec_EqualInts_eq a a (by omega) (by omega)]; simp
theorem laws_toIntS_l0 (l : List Int) (hl : l.length ≤ 4611686018427387904) : ∀ (j k i : Nat) (x : List Int), l.length - i ≤ j → j < k → x.length = l.length → (∀ p, p < i → x[p]? = l[p]?) → laws_toIntS.l0 k l x (i : Int) = some l := by
  intro j
  induction j with
  | zero =>
    intro k i x hi hk hx hp
    obtain ⟨k, rfl⟩ : ∃ m, k = m + 1 := ⟨k - 1, by omega⟩
    simp only [laws_toIntS.l0]
    rw [if_neg (by omega)]
    congr 1
    apply List.ext_getElem?
    intro p
    by_cases h : p < i
    · exact hp p h
    · rw [List.getElem?_eq_none (by omega), List.getElem?_eq_none (by omega)]
  | succ j ih =>
    intro k i x hi hk hx hp
    obtain ⟨k, rfl⟩ : ∃ m, k = m + 1 := ⟨k - 1, by omega⟩
    simp only [laws_toIntS.l0]
    by_cases h : i < l.length
    · rw [if_pos (by omega), if_pos (by omega), if_pos (by omega), nxt (by omega), rd_at h]
      refine ih k (i + 1) _ (by omega) (by omega) (by rw [List.length_set]; exact hx) (fun p hpi => ?_)
      rw [show ((i : Int)).toNat = i from rfl, List.getElem?_set]
      by_cases e : i = p
      · subst e
        rw [if_pos (by simp), if_pos (by omega), List.getElem?_eq_getElem h]
      · rw [if_neg e]
        exact hp p (by omega)
    · rw [if_neg (by omega)]
      congr 1
      apply List.ext_getElem?
      intro p
      by_cases h : p < i
      · exact hp p h
      · rw [List.getElem?_eq_none (by omega), List.getElem?_eq_none (by omega)]
theorem laws_toIntS_eq {k : Nat} (l : List Int) (hl : l.length ≤ 1048576) (hk : 1048576 < k) : laws_toIntS.f k l = some l := by
  unfold laws_toIntS.f
  rw [if_pos (by omega), if_pos (by omega)]
  exact laws_toIntS_l0 l (by omega) l.length k 0 _ (by omega) (by omega) (by simp) (fun p hp => by omega)
theorem impl_EqualInts_l0 (a b : List Int) (hl : a.length = b.length) (hm : a.length ≤ 4611686018427387904) : ∀ (j k i : Nat), a.length - i ≤ j → j < k → impl_EqualInts.l0 k a b (a.length : Int) (i : Int) = some (decide (a.drop i = b.drop i)) := by
  intro j
  induction j with
  | zero =>
    intro k i hi hk
    obtain ⟨k, rfl⟩ : ∃ m, k = m + 1 := ⟨k - 1, by omega⟩
    simp only [impl_EqualInts.l0]
    rw [if_neg (by omega), List.drop_eq_nil_of_le (by omega), List.drop_eq_nil_of_le (by omega)]; simp
  | succ j ih =>
    intro k i hi hk
    obtain ⟨k, rfl⟩ : ∃ m, k = m + 1 := ⟨k - 1, by omega⟩
    simp only [impl_EqualInts.l0]
    by_cases h : i < a.length
    · have hb : i < b.length := by omega
      rw [if_pos (by omega), if_pos (by omega), if_pos (by omega), if_pos (by omega), nxt (by omega), rd_at h, rd_at hb, ih k (i + 1) (by omega) (by omega), List.drop_eq_getElem_cons h, List.drop_eq_getElem_cons hb]
      by_cases e : a[i] = b[i]
      · rw [if_pos e]; congr 1; rw [decide_eq_decide]; exact ⟨fun h1 => by rw [e, h1], fun h1 => (List.cons.inj h1).2⟩
      · rw [if_neg e]; congr 1; symm; rw [decide_eq_false_iff_not]; exact fun h1 => e (List.cons.inj h1).1
    · rw [if_neg (by omega), List.drop_eq_nil_of_le (by omega), List.drop_eq_nil_of_le (by omega)]; simp
theorem impl_EqualInts_eq {k : Nat} (a b : List Int) (hm : a.length ≤ 4611686018427387904) (hk : a.length < k) : impl_EqualInts.f k a b = some (decide (a = b)) := by
  unfold impl_EqualInts.f
  by_cases h : a.length = b.length
  · rw [if_pos (by omega)]
    exact impl_EqualInts_l0 a b h hm a.length k 0 (by omega) hk
  · rw [if_neg (by omega)]
    have : a ≠ b := fun e => h (by rw [e])
    simp [this]
theorem laws_eqIntS_l0 (a b : List Int) (hl : a.length = b.length) (hm : a.length ≤ 4611686018427387904) : ∀ (j k i : Nat), a.length - i ≤ j → j < k → laws_eqIntS.l0 k a b (i : Int) = some (decide (a.drop i = b.drop i)) := by
  intro j
  induction j with
  | zero =>
    intro k i hi hk
    obtain ⟨k, rfl⟩ : ∃ m, k = m + 1 := ⟨k - 1, by omega⟩
    simp only [laws_eqIntS.l0]
    rw [if_neg (by omega), List.drop_eq_nil_of_le (by omega), List.drop_eq_nil_of_le (by omega)]; simp
  | succ j ih =>
    intro k i hi hk
    obtain ⟨k, rfl⟩ : ∃ m, k = m + 1 := ⟨k - 1, by omega⟩
    simp only [laws_eqIntS.l0]
    by_cases h : i < a.length
    · have hb : i < b.length := by omega
      rw [if_pos (by omega), if_pos (by omega), if_pos (by omega), nxt (by omega), rd_at h, rd_at hb, ih k (i + 1) (by omega) (by omega), List.drop_eq_getElem_cons h, List.drop_eq_getElem_cons hb]
      by_cases e : a[i] = b[i]
      · rw [if_pos e]; congr 1; rw [decide_eq_decide]; exact ⟨fun h1 => by rw [e, h1], fun h1 => (List.cons.inj h1).2⟩
      · rw [if_neg e]; congr 1; symm; rw [decide_eq_false_iff_not]; exact fun h1 => e (List.cons.inj h1).1
    · rw [if_neg (by omega), List.drop_eq_nil_of_le (by omega), List.drop_eq_nil_of_le (by omega)]; simp
theorem laws_eqIntS_eq {k : Nat} (a b : List Int) (hm : a.length ≤ 4611686018427387904) (hk : a.length < k) : laws_eqIntS.f k a b = some (decide (a = b)) := by
  unfold laws_eqIntS.f
  by_cases h : a.length = b.length
  · rw [if_pos (by omega)]
    exact laws_eqIntS_l0 a b h hm a.length k 0 (by omega) hk
  · rw [if_neg (by omega)]
    have : a ≠ b := fun e => h (by rw [e])
    simp [this]
theorem laws_eqIntS_self {k : Nat} (a : List Int) (hm : a.length ≤ 1048576) (hk : 1048576 < k) : laws_eqIntS.f k a a = some true := by
  rw [laws_eqIntS_eq a a (by omega) (by omega)]; simp
theorem proved : laws_FnExactEqualInts.Pure := by
  intro l0 l1 _ _ _ _ _ _
  obtain ⟨K, hK⟩ : ∃ K : Nat, 3000000 ≤ K := ⟨_, Nat.le_refl _⟩
  refine ⟨K, ?_⟩
  unfold laws_FnExactEqualInts.f
  rcases Nat.lt_or_ge 1048576 l0.length with h0 | h0
  · rw [if_pos (by omega)]
  rw [if_neg (by omega)]
  rcases Nat.lt_or_ge 1048576 l1.length with h1 | h1
  · rw [if_pos (by omega)]
  rw [if_neg (by omega)]
  simp only [laws_toIntS_eq l0 h0 (show 1048576 < K by omega), laws_toIntS_eq l1 h1 (show 1048576 < K by omega), laws_eqIntS_self l0 h0 (show 1048576 < K by omega), laws_eqIntS_self l1 h1 (show 1048576 < K by omega), spec_EqualInts_eq l0 l1 (show _ ≤ 4611686018427387904 by omega) (show _ < K by omega), impl_EqualInts_eq l0 l1 (show _ ≤ 4611686018427387904 by omega) (show _ < K by omega), Option.bind_some]
  simp
end KFnExactEqualInts
theorem FnExactEqualInts : laws_FnExactEqualInts.Pure := KFnExactEqualInts.proved
end Go.Proofs.Ythfhejfidmhklaa.Pure
