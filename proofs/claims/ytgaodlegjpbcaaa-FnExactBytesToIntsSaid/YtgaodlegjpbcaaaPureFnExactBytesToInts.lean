/- the program's BytesToInts answers as the reference's, leaves its arguments alone and shares no memory with them. -/
import Derived.Test.YtgaodlegjpbcaaaPFnExactBytesToIntsx2
import Derived.Test.YtgaodlegjpbcaaaNum3
set_option linter.unusedVariables false
set_option linter.unusedSimpArgs false
namespace Go.Proofs.Ytgaodlegjpbcaaa.Pure
open Go.RowKit Go.Proofs.Ytgaodlegjpbcaaa.PFnExactBytesToInts Go.Proofs.YtgaodlegjpbcaaaW.PrintWords Go.Proofs.YtgaodlegjpbcaaaW.PrintLast Go.Proofs.Ytgaodlegjpbcaaa.Num
namespace KFnExactBytesToInts
theorem laws_eqIntS_l0 (a b : List Int) (hl : a.length = b.length) (hm : a.length ≤ 4611686018427387904) : ∀ (j k i : Nat), a.length - i ≤ j → j < k → laws_eqIntS.l0 k a b (i : Int) = some (decide (a.drop i = b.drop i)) := by
  intro j
  induction j with
  | zero =>
    intro k i hi hk
    obtain ⟨k, rfl⟩ : ∃ m, k = m + 1 := ⟨k - 1, by omega⟩
    simp only [laws_eqIntS.l0]
    rw [if_neg (by omega), List.drop_eq_nil_of_le (by omega), List.drop_eq_nil_of_le (by omega)]; simp
  | succ j ih =>
    intro k i hi hk
    obtain ⟨k, rfl⟩ : ∃ m, k = m + 1 := ⟨k - 1, by omega⟩
    simp only [laws_eqIntS.l0]
    by_cases h : i < a.length
    · have hb : i < b.length := by omega
      rw [if_pos (by omega), if_pos (by omega), if_pos (by omega), nxt (by omega), rd_at h, rd_at hb, ih k (i + 1) (by omega) (by omega), List.drop_eq_getElem_cons h, List.drop_eq_getElem_cons hb]
      by_cases e : a[i] = b[i]
      · rw [if_pos e]; congr 1; rw [decide_eq_decide]; exact ⟨fun h1 => by rw [e, h1], fun h1 => (List.cons.inj h1).2⟩
      · rw [if_neg e]; congr 1; symm; rw [decide_eq_false_iff_not]; exact fun h1 => e (List.cons.inj h1).1
    · rw [if_neg (by omega), List.drop_eq_nil_of_le (by omega), List.drop_eq_nil_of_le (by omega)]; simp
theorem laws_eqIntS_eq {k : Nat} (a b : List Int) (hm : a.length ≤ 4611686018427387904) (hk : a.length < k) : laws_eqIntS.f k a b = some (decide (a = b)) := by
  unfold laws_eqIntS.f
  by_cases h : a.length = b.length
  · rw [if_pos (by omega)]
    exact laws_eqIntS_l0 a b h hm a.length k 0 (by omega) hk
  · rw [if_neg (by omega)]
    have : a ≠ b := fun e => h (by rw [e])
    simp [this]
theorem laws_eqIntS_self {k : Nat} (a : List Int) (hm : a.length ≤ 1048576) (hk : 1048576 < k) : laws_eqIntS.f k a a = some true := by
  rw [laws_eqIntS_eq a a (by omega) (by omega)]; simp
theorem spec_BytesToInts_l0 (l : List Int) (hb : ∀ x ∈ l, 0 ≤ x ∧ x ≤ 255) (hl : l.length ≤ 1000000000) : ∀ (j k i : Nat) (x : List Int), l.length - i ≤ j → j < k → x.length + (l.length - i) ≤ 2000000000 → spec_BytesToInts.l0 k l x (i : Int) = some (x ++ l.drop i) := by
  intro j
  induction j with
  | zero =>
    intro k i x hi hk hx
    obtain ⟨k, rfl⟩ : ∃ m, k = m + 1 := ⟨k - 1, by omega⟩
    simp only [spec_BytesToInts.l0]
    rw [if_neg (by omega), List.drop_eq_nil_of_le (by omega), List.append_nil]
  | succ j ih =>
    intro k i x hi hk hx
    obtain ⟨k, rfl⟩ : ∃ m, k = m + 1 := ⟨k - 1, by omega⟩
    simp only [spec_BytesToInts.l0]
    by_cases h : i < l.length
    · have hv := hb _ (List.getElem_mem h)
      rw [if_pos (by omega), if_pos (by omega), if_pos (by omega), rd_at h, w64 (n := l[i]) (by omega) (by omega), nxt (by omega), ih k (i + 1) _ (by omega) (by omega) (by simp; omega), List.drop_eq_getElem_cons h, List.append_assoc]; rfl
    · rw [if_neg (by omega), List.drop_eq_nil_of_le (by omega), List.append_nil]
theorem spec_BytesToInts_eq {k : Nat} (l : List Int) (hb : ∀ x ∈ l, 0 ≤ x ∧ x ≤ 255) (hl : l.length ≤ 1000000000) (hk : l.length < k) : spec_BytesToInts.f k l = some ((l.length : Int) :: l) := by
  unfold spec_BytesToInts.f
  exact spec_BytesToInts_l0 l hb hl l.length k 0 _ (by omega) hk (by simp; omega)
theorem laws_toByteS_l0 (l : List Int) (hl : l.length ≤ 4611686018427387904) : ∀ (j k i : Nat) (x : List Int), l.length - i ≤ j → j < k → x.length = l.length → (∀ p, p < i → x[p]? = l[p]?) → laws_toByteS.l0 k l x (i : Int) = some l := by
  intro j
  induction j with
  | zero =>
    intro k i x hi hk hx hp
    obtain ⟨k, rfl⟩ : ∃ m, k = m + 1 := ⟨k - 1, by omega⟩
    simp only [laws_toByteS.l0]
    rw [if_neg (by omega)]
    congr 1
    apply List.ext_getElem?
    intro p
    by_cases h : p < i
    · exact hp p h
    · rw [List.getElem?_eq_none (by omega), List.getElem?_eq_none (by omega)]
  | succ j ih =>
    intro k i x hi hk hx hp
    obtain ⟨k, rfl⟩ : ∃ m, k = m + 1 := ⟨k - 1, by omega⟩
    simp only [laws_toByteS.l0]
    by_cases h : i < l.length
    · rw [if_pos (by omega), if_pos (by omega), if_pos (by omega), nxt (by omega), rd_at h]
      refine ih k (i + 1) _ (by omega) (by omega) (by rw [List.length_set]; exact hx) (fun p hpi => ?_)
      rw [show ((i : Int)).toNat = i from rfl, List.getElem?_set]
      by_cases e : i = p
      · subst e
        rw [if_pos (by simp), if_pos (by omega), List.getElem?_eq_getElem h]
      · rw [if_neg e]
        exact hp p (by omega)
    · rw [if_neg (by omega)]
      congr 1
      apply List.ext_getElem?
      intro p
      by_cases h : p < i
      · exact hp p h
      · rw [List.getElem?_eq_none (by omega), List.getElem?_eq_none (by omega)]
theorem laws_toByteS_eq {k : Nat} (l : List Int) (hl : l.length ≤ 1048576) (hk : 1048576 < k) : laws_toByteS.f k l = some l := by
  unfold laws_toByteS.f
  rw [if_pos (by omega), if_pos (by omega)]
  exact laws_toByteS_l0 l (by omega) l.length k 0 _ (by omega) (by omega) (by simp) (fun p hp => by omega)
theorem impl_BytesToInts_l0 (l : List Int) (hb : ∀ x ∈ l, 0 ≤ x ∧ x ≤ 255) (hl : l.length ≤ 1000000000) : ∀ (j k i : Nat) (x : List Int), l.length - i ≤ j → j < k → x.length + (l.length - i) ≤ 2000000000 → impl_BytesToInts.l0 k x l (l.length : Int) (i : Int) = some (x ++ l.drop i) := by
  intro j
  induction j with
  | zero =>
    intro k i x hi hk hx
    obtain ⟨k, rfl⟩ : ∃ m, k = m + 1 := ⟨k - 1, by omega⟩
    simp only [impl_BytesToInts.l0]
    rw [if_neg (by omega), List.drop_eq_nil_of_le (by omega), List.append_nil]
  | succ j ih =>
    intro k i x hi hk hx
    obtain ⟨k, rfl⟩ : ∃ m, k = m + 1 := ⟨k - 1, by omega⟩
    simp only [impl_BytesToInts.l0]
    by_cases h : i < l.length
    · have hv := hb _ (List.getElem_mem h)
      rw [if_pos (by omega), if_pos (by omega), if_pos (by omega), if_pos (by omega), rd_at h, w64 (n := l[i]) (by omega) (by omega), nxt (by omega), ih k (i + 1) _ (by omega) (by omega) (by simp; omega), List.drop_eq_getElem_cons h, List.append_assoc]; rfl
    · rw [if_neg (by omega), List.drop_eq_nil_of_le (by omega), List.append_nil]
theorem impl_BytesToInts_eq {k : Nat} (l : List Int) (hb : ∀ x ∈ l, 0 ≤ x ∧ x ≤ 255) (hl : l.length ≤ 1000000000) (hk : l.length < k) : impl_BytesToInts.f k l = some ((l.length : Int) :: l) := by
  unfold impl_BytesToInts.f
  exact impl_BytesToInts_l0 l hb hl l.length k 0 _ (by omega) hk (by simp; omega)
theorem laws_eqByteS_l0 (a b : List Int) (hl : a.length = b.length) (hm : a.length ≤ 4611686018427387904) : ∀ (j k i : Nat), a.length - i ≤ j → j < k → laws_eqByteS.l0 k a b (i : Int) = some (decide (a.drop i = b.drop i)) := by
  intro j
  induction j with
  | zero =>
    intro k i hi hk
    obtain ⟨k, rfl⟩ : ∃ m, k = m + 1 := ⟨k - 1, by omega⟩
    simp only [laws_eqByteS.l0]
    rw [if_neg (by omega), List.drop_eq_nil_of_le (by omega), List.drop_eq_nil_of_le (by omega)]; simp
  | succ j ih =>
    intro k i hi hk
    obtain ⟨k, rfl⟩ : ∃ m, k = m + 1 := ⟨k - 1, by omega⟩
    simp only [laws_eqByteS.l0]
    by_cases h : i < a.length
    · have hb : i < b.length := by omega
      rw [if_pos (by omega), if_pos (by omega), if_pos (by omega), nxt (by omega), rd_at h, rd_at hb, ih k (i + 1) (by omega) (by omega), List.drop_eq_getElem_cons h, List.drop_eq_getElem_cons hb]
      by_cases e : a[i] = b[i]
      · rw [if_pos e]; congr 1; rw [decide_eq_decide]; exact ⟨fun h1 => by rw [e, h1], fun h1 => (List.cons.inj h1).2⟩
      · rw [if_neg e]; congr 1; symm; rw [decide_eq_false_iff_not]; exact fun h1 => e (List.cons.inj h1).1
    · rw [if_neg (by omega), List.drop_eq_nil_of_le (by omega), List.drop_eq_nil_of_le (by omega)]; simp
theorem laws_eqByteS_eq {k : Nat} (a b : List Int) (hm : a.length ≤ 4611686018427387904) (hk : a.length < k) : laws_eqByteS.f k a b = some (decide (a = b)) := by
  unfold laws_eqByteS.f
  by_cases h : a.length = b.length
  · rw [if_pos (by omega)]
    exact laws_eqByteS_l0 a b h hm a.length k 0 (by omega) hk
  · rw [if_neg (by omega)]
    have : a ≠ b := fun e => h (by rw [e])
    simp [this]
theorem laws_eqByteS_self {k : Nat} (a : List Int) (hm : a.length ≤ 1048576) (hk : 1048576 < k) : laws_eqByteS.f k a a = some true := by
  rw [laws_eqByteS_eq a a (by omega) (by omega)]; simp
theorem laws_markByteS_l0 (s : Int) (s0 : 0 ≤ s) (s1 : s ≤ 1000000000000) : ∀ (j k i : Nat) (x : List Int), x.length ≤ 1000000000000 → x.length - i ≤ j → j < k → i ≤ x.length → (∀ p, p < i → x[p]? = some ((s + ((p : Nat) : Int)) % 256)) →
    ∃ x', laws_markByteS.l0 k x (s + (i : Int)) (i : Int) = some (s + (x.length : Int), x') ∧ x'.length = x.length ∧ ∀ p, p < x.length → x'[p]? = some ((s + ((p : Nat) : Int)) % 256) := by
  intro j
  induction j with
  | zero =>
    intro k i x hl hi hk hix hp
    obtain ⟨k, rfl⟩ : ∃ m, k = m + 1 := ⟨k - 1, by omega⟩
    simp only [laws_markByteS.l0]
    rw [if_neg (by omega), show (i : Int) = (x.length : Int) by omega]
    exact ⟨x, rfl, rfl, fun p h => hp p (by omega)⟩
  | succ j ih =>
    intro k i x hl hi hk hix hp
    obtain ⟨k, rfl⟩ : ∃ m, k = m + 1 := ⟨k - 1, by omega⟩
    simp only [laws_markByteS.l0]
    by_cases h : i < x.length
    · have e1 : wrap64 (s + (i : Int) + 1) = s + ((i + 1 : Nat) : Int) := by rw [w64 (by omega) (by omega)]; omega
      rw [if_pos (by omega), if_pos (by omega), e1, nxt (by omega), show ((i : Int)).toNat = i from rfl]
      have hih := ih k (i + 1) (x.set i ((s + ((i : Nat) : Int)) % 256)) (by rw [List.length_set]; exact hl) (by rw [List.length_set]; omega) (by omega) (by rw [List.length_set]; omega) (fun p hpi => by
        rw [List.getElem?_set]
        by_cases e : i = p
        · subst e; rw [if_pos rfl, if_pos h]
        · rw [if_neg e]; exact hp p (by omega))
      rw [List.length_set] at hih
      exact hih
    · rw [if_neg (by omega), show (i : Int) = (x.length : Int) by omega]
      exact ⟨x, rfl, rfl, fun p h => hp p (by omega)⟩
theorem laws_markByteS_ok {k : Nat} (s : Int) (s0 : 0 ≤ s) (s1 : s ≤ 1000000000000) (x : List Int) (hl : x.length ≤ 1000000000000) (hk : x.length < k) :
    ∃ x', laws_markByteS.f k x s = some (s + (x.length : Int), x') ∧ x'.length = x.length ∧ ∀ p, p < x.length → x'[p]? = some ((s + ((p : Nat) : Int)) % 256) := by
  unfold laws_markByteS.f
  have h := laws_markByteS_l0 s s0 s1 x.length k 0 x hl (by omega) hk (by omega) (fun p hp => by omega)
  rw [show s + ((0 : Nat) : Int) = s by omega] at h
  exact h
theorem laws_markIntS_l0 (s : Int) (s0 : 0 ≤ s) (s1 : s ≤ 1000000000000) : ∀ (j k i : Nat) (x : List Int), x.length ≤ 1000000000000 → x.length - i ≤ j → j < k → i ≤ x.length → (∀ p, p < i → x[p]? = some (s + ((p : Nat) : Int))) →
    ∃ x', laws_markIntS.l0 k x (s + (i : Int)) (i : Int) = some (s + (x.length : Int), x') ∧ x'.length = x.length ∧ ∀ p, p < x.length → x'[p]? = some (s + ((p : Nat) : Int)) := by
  intro j
  induction j with
  | zero =>
    intro k i x hl hi hk hix hp
    obtain ⟨k, rfl⟩ : ∃ m, k = m + 1 := ⟨k - 1, by omega⟩
    simp only [laws_markIntS.l0]
    rw [if_neg (by omega), show (i : Int) = (x.length : Int) by omega]
    exact ⟨x, rfl, rfl, fun p h => hp p (by omega)⟩
  | succ j ih =>
    intro k i x hl hi hk hix hp
    obtain ⟨k, rfl⟩ : ∃ m, k = m + 1 := ⟨k - 1, by omega⟩
    simp only [laws_markIntS.l0]
    by_cases h : i < x.length
    · have e1 : wrap64 (s + (i : Int) + 1) = s + ((i + 1 : Nat) : Int) := by rw [w64 (by omega) (by omega)]; omega
      rw [if_pos (by omega), if_pos (by omega), e1, nxt (by omega), show ((i : Int)).toNat = i from rfl]
      have hih := ih k (i + 1) (x.set i (s + ((i : Nat) : Int))) (by rw [List.length_set]; exact hl) (by rw [List.length_set]; omega) (by omega) (by rw [List.length_set]; omega) (fun p hpi => by
        rw [List.getElem?_set]
        by_cases e : i = p
        · subst e; rw [if_pos rfl, if_pos h]
        · rw [if_neg e]; exact hp p (by omega))
      rw [List.length_set] at hih
      exact hih
    · rw [if_neg (by omega), show (i : Int) = (x.length : Int) by omega]
      exact ⟨x, rfl, rfl, fun p h => hp p (by omega)⟩
theorem laws_markIntS_ok {k : Nat} (s : Int) (s0 : 0 ≤ s) (s1 : s ≤ 1000000000000) (x : List Int) (hl : x.length ≤ 1000000000000) (hk : x.length < k) :
    ∃ x', laws_markIntS.f k x s = some (s + (x.length : Int), x') ∧ x'.length = x.length ∧ ∀ p, p < x.length → x'[p]? = some (s + ((p : Nat) : Int)) := by
  unfold laws_markIntS.f
  have h := laws_markIntS_l0 s s0 s1 x.length k 0 x hl (by omega) hk (by omega) (fun p hp => by omega)
  rw [show s + ((0 : Nat) : Int) = s by omega] at h
  exact h
theorem laws_heldIntS_l0 (s : Int) (s0 : 0 ≤ s) (s1 : s ≤ 1000000000000) (x : List Int) (hl : x.length ≤ 1000000000000) (hp : ∀ p, p < x.length → x[p]? = some (s + ((p : Nat) : Int))) : ∀ (j k i : Nat), x.length - i ≤ j → j < k → i ≤ x.length →
    laws_heldIntS.l0 k x (s + (i : Int)) (i : Int) = some (s + (x.length : Int)) := by
  intro j
  induction j with
  | zero =>
    intro k i hi hk hix
    obtain ⟨k, rfl⟩ : ∃ m, k = m + 1 := ⟨k - 1, by omega⟩
    simp only [laws_heldIntS.l0]
    rw [if_neg (by omega), show (i : Int) = (x.length : Int) by omega]
  | succ j ih =>
    intro k i hi hk hix
    obtain ⟨k, rfl⟩ : ∃ m, k = m + 1 := ⟨k - 1, by omega⟩
    simp only [laws_heldIntS.l0]
    by_cases h : i < x.length
    · have e1 : wrap64 (s + (i : Int) + 1) = s + ((i + 1 : Nat) : Int) := by rw [w64 (by omega) (by omega)]; omega
      have e2 : rd x (i : Int) = s + ((i : Nat) : Int) := by rw [rd_nat, hp i h]; rfl
      rw [if_pos (by omega), if_pos (by omega), if_pos e2, e1, nxt (by omega)]
      exact ih k (i + 1) (by omega) (by omega) (by omega)
    · rw [if_neg (by omega), show (i : Int) = (x.length : Int) by omega]
theorem laws_heldIntS_ok {k : Nat} (s : Int) (s0 : 0 ≤ s) (s1 : s ≤ 1000000000000) (x : List Int) (n : Nat) (hn : x.length = n) (hl : n ≤ 1000000000000) (hk : n < k) (hp : ∀ p, p < n → x[p]? = some (s + ((p : Nat) : Int))) : laws_heldIntS.f k x s = some (s + (n : Int)) := by
  subst hn
  unfold laws_heldIntS.f
  have h := laws_heldIntS_l0 s s0 s1 x hl hp x.length k 0 (by omega) hk (by omega)
  rw [show s + ((0 : Nat) : Int) = s by omega] at h
  exact h
theorem proved : laws_FnExactBytesToInts.Pure := by
  intro l0 _ _ hb
  obtain ⟨K, hK⟩ : ∃ K : Nat, 1000000000 ≤ K := ⟨_, Nat.le_refl _⟩
  refine ⟨K, ?_⟩
  unfold laws_FnExactBytesToInts.f
  rcases Nat.lt_or_ge 1048576 l0.length with h_l0 | h_l0
  · rw [if_pos (by omega)]
  rw [if_neg (by omega)]
  have hby : ∀ x ∈ l0, 0 ≤ x ∧ x ≤ 255 := fun x hx => wfb (hb x hx)
  have hto_l0 : ∀ k, 100000000 ≤ k → laws_toByteS.f k l0 = some l0 := fun k hk => laws_toByteS_eq l0 h_l0 (by omega)
  have hsa_l0 := laws_eqByteS_self (k := K) l0 h_l0 (by omega)
  have hs : spec_BytesToInts.f K l0 = some ((l0.length : Int) :: l0) := spec_BytesToInts_eq l0 hby (by omega) (by omega)
  have hi : ∀ k, 100000000 ≤ k → impl_BytesToInts.f k l0 = some ((l0.length : Int) :: l0) := fun k hk => impl_BytesToInts_eq l0 hby (by omega) (by omega)
  have hlen : ((l0.length : Int) :: l0).length ≤ 10000000 := by simp; omega
  generalize (l0.length : Int) :: l0 = r at *
  have hq : ∀ k, 100000000 ≤ k → laws_eqIntS.f k r r = some true := fun k hk => by rw [laws_eqIntS_eq r r (by omega) (by omega)]; simp
  have hm : ∀ k, 100000000 ≤ k → ∃ r', laws_markIntS.f k r 1 = some (1 + (r.length : Int), r') ∧ ∀ k', 100000000 ≤ k' → laws_heldIntS.f k' r' 1 = some (1 + (r.length : Int)) := by
    intro k hk
    obtain ⟨r', e1, e2, e3⟩ := laws_markIntS_ok (k := k) 1 (by omega) (by omega) r (by omega) (by omega)
    exact ⟨r', e1, fun k' hk' => laws_heldIntS_ok 1 (by omega) (by omega) r' r.length e2 (by omega) (by omega) e3⟩
  have hnr : ¬ (1 + (r.length : Int) < 0) := by omega
  have hj : laws_FnExactBytesToInts.j0 K l0 r r false = some true := by
    obtain ⟨k, rfl⟩ : ∃ j, K = j + 1 := ⟨K - 1, by omega⟩
    obtain ⟨r', e1, e2⟩ := hm k (by omega)
    simp only [laws_FnExactBytesToInts.j0]
    rw [if_neg (by simp)]
    simp only [e1, e2 k (by omega), hto_l0 k (by omega), hi k (by omega), hq k (by omega), Option.bind_some]
    simp only [↓reduceIte, hnr]
  obtain ⟨x_l0, e_l0, _⟩ := laws_markByteS_ok (k := K) (1) (by omega) (by omega) l0 (by omega) (by omega)
  have hn1 : ¬ (1 + (l0.length : Int) < 0) := by omega
  simp only [hto_l0 K (by omega), hsa_l0, hs, hi K (by omega), hq K (by omega), e_l0, Option.bind_some]
  simp only [↓reduceIte, hn1, Bool.not_true, hj]
end KFnExactBytesToInts
theorem FnExactBytesToInts : laws_FnExactBytesToInts.Pure := KFnExactBytesToInts.proved
end Go.Proofs.Ytgaodlegjpbcaaa.Pure
