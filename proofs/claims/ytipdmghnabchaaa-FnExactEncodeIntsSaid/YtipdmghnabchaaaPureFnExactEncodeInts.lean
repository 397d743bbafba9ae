/- the program's EncodeInts answers as the reference's, leaves its arguments alone and shares no memory with them. -/
import Derived.Test.YtipdmghnabchaaaPFnExactEncodeIntsx2
import Derived.Test.YtipdmghnabchaaaNum4
set_option linter.unusedVariables false
set_option linter.unusedSimpArgs false
namespace Go.Proofs.Ytipdmghnabchaaa.Pure
open Go.RowKit Go.Proofs.Ytipdmghnabchaaa.PFnExactEncodeInts Go.Proofs.YtipdmghnabchaaaW.PrintWords Go.Proofs.YtipdmghnabchaaaW.PrintLast Go.Proofs.Ytipdmghnabchaaa.Num
namespace KFnExactEncodeInts
theorem laws_toIntS_l0 (l : List Int) (hl : l.length ≤ 4611686018427387904) : ∀ (j k i : Nat) (x : List Int), l.length - i ≤ j → j < k → x.length = l.length → (∀ p, p < i → x[p]? = l[p]?) → laws_toIntS.l0 k l x (i : Int) = some l := by
  intro j
  induction j with
  | zero =>
    intro k i x hi hk hx hp
    obtain ⟨k, rfl⟩ : ∃ m, k = m + 1 := ⟨k - 1, by omega⟩
    simp only [laws_toIntS.l0]
    rw [if_neg (by omega)]
    congr 1
    apply List.ext_getElem?
    intro p
    by_cases h : p < i
    · exact hp p h
    · rw [List.getElem?_eq_none (by omega), List.getElem?_eq_none (by omega)]
  | succ j ih =>
    intro k i x hi hk hx hp
    obtain ⟨k, rfl⟩ : ∃ m, k = m + 1 := ⟨k - 1, by omega⟩
    simp only [laws_toIntS.l0]
    by_cases h : i < l.length
    · rw [if_pos (by omega), if_pos (by omega), if_pos (by omega), nxt (by omega), rd_at h]
      refine ih k (i + 1) _ (by omega) (by omega) (by rw [List.length_set]; exact hx) (fun p hpi => ?_)
      rw [show ((i : Int)).toNat = i from rfl, List.getElem?_set]
      by_cases e : i = p
      · subst e
        rw [if_pos (by simp), if_pos (by omega), List.getElem?_eq_getElem h]
      · rw [if_neg e]
        exact hp p (by omega)
    · rw [if_neg (by omega)]
      congr 1
      apply List.ext_getElem?
      intro p
      by_cases h : p < i
      · exact hp p h
      · rw [List.getElem?_eq_none (by omega), List.getElem?_eq_none (by omega)]
theorem laws_toIntS_eq {k : Nat} (l : List Int) (hl : l.length ≤ 1048576) (hk : 1048576 < k) : laws_toIntS.f k l = some l := by
  unfold laws_toIntS.f
  rw [if_pos (by omega), if_pos (by omega)]
  exact laws_toIntS_l0 l (by omega) l.length k 0 _ (by omega) (by omega) (by simp) (fun p hp => by omega)
theorem laws_eqIntS_l0 (a b : List Int) (hl : a.length = b.length) (hm : a.length ≤ 4611686018427387904) : ∀ (j k i : Nat), a.length - i ≤ j → j < k → laws_eqIntS.l0 k a b (i : Int) = some (decide (a.drop i = b.drop i)) := by
  intro j
  induction j with
  | zero =>
    intro k i hi hk
    obtain ⟨k, rfl⟩ : ∃ m, k = m + 1 := ⟨k - 1, by omega⟩
    simp only [laws_eqIntS.l0]
    rw [if_neg (by omega), List.drop_eq_nil_of_le (by omega), List.drop_eq_nil_of_le (by omega)]; simp
  | succ j ih =>
    intro k i hi hk
    obtain ⟨k, rfl⟩ : ∃ m, k = m + 1 := ⟨k - 1, by omega⟩
    simp only [laws_eqIntS.l0]
    by_cases h : i < a.length
    · have hb : i < b.length := by omega
      rw [if_pos (by omega), if_pos (by omega), if_pos (by omega), nxt (by omega), rd_at h, rd_at hb, ih k (i + 1) (by omega) (by omega), List.drop_eq_getElem_cons h, List.drop_eq_getElem_cons hb]
      by_cases e : a[i] = b[i]
      · rw [if_pos e]; congr 1; rw [decide_eq_decide]; exact ⟨fun h1 => by rw [e, h1], fun h1 => (List.cons.inj h1).2⟩
      · rw [if_neg e]; congr 1; symm; rw [decide_eq_false_iff_not]; exact fun h1 => e (List.cons.inj h1).1
    · rw [if_neg (by omega), List.drop_eq_nil_of_le (by omega), List.drop_eq_nil_of_le (by omega)]; simp
theorem laws_eqIntS_eq {k : Nat} (a b : List Int) (hm : a.length ≤ 4611686018427387904) (hk : a.length < k) : laws_eqIntS.f k a b = some (decide (a = b)) := by
  unfold laws_eqIntS.f
  by_cases h : a.length = b.length
  · rw [if_pos (by omega)]
    exact laws_eqIntS_l0 a b h hm a.length k 0 (by omega) hk
  · rw [if_neg (by omega)]
    have : a ≠ b := fun e => h (by rw [e])
    simp [this]
theorem laws_eqIntS_self {k : Nat} (a : List Int) (hm : a.length ≤ 1048576) (hk : 1048576 < k) : laws_eqIntS.f k a a = some true := by
  rw [laws_eqIntS_eq a a (by omega) (by omega)]; simp
theorem laws_eqByteS_l0 (a b : List Int) (hl : a.length = b.length) (hm : a.length ≤ 4611686018427387904) : ∀ (j k i : Nat), a.length - i ≤ j → j < k → laws_eqByteS.l0 k a b (i : Int) = some (decide (a.drop i = b.drop i)) := by
  intro j
  induction j with
  | zero =>
    intro k i hi hk
    obtain ⟨k, rfl⟩ : ∃ m, k = m + 1 := ⟨k - 1, by omega⟩
    simp only [laws_eqByteS.l0]
    rw [if_neg (by omega), List.drop_eq_nil_of_le (by omega), List.drop_eq_nil_of_le (by omega)]; simp
  | succ j ih =>
    intro k i hi hk
    obtain ⟨k, rfl⟩ : ∃ m, k = m + 1 := ⟨k - 1, by omega⟩
    simp only [laws_eqByteS.l0]
    by_cases h : i < a.length
    · have hb : i < b.length := by omega
      rw [if_pos (by omega), if_pos (by omega), if_pos (by omega), nxt (by omega), rd_at h, rd_at hb, ih k (i + 1) (by omega) (by omega), List.drop_eq_getElem_cons h, List.drop_eq_getElem_cons hb]
      by_cases e : a[i] = b[i]
      · rw [if_pos e]; congr 1; rw [decide_eq_decide]; exact ⟨fun h1 => by rw [e, h1], fun h1 => (List.cons.inj h1).2⟩
      · rw [if_neg e]; congr 1; symm; rw [decide_eq_false_iff_not]; exact fun h1 => e (List.cons.inj h1).1
    · rw [if_neg (by omega), List.drop_eq_nil_of_le (by omega), List.drop_eq_nil_of_le (by omega)]; simp
theorem laws_eqByteS_eq {k : Nat} (a b : List Int) (hm : a.length ≤ 4611686018427387904) (hk : a.length < k) : laws_eqByteS.f k a b = some (decide (a = b)) := by
  unfold laws_eqByteS.f
  by_cases h : a.length = b.length
  · rw [if_pos (by omega)]
    exact laws_eqByteS_l0 a b h hm a.length k 0 (by omega) hk
  · rw [if_neg (by omega)]
    have : a ≠ b := fun e => h (by rw [e])
    simp [this]
theorem laws_eqByteS_self {k : Nat} (a : List Int) (hm : a.length ≤ 1048576) (hk : 1048576 < k) : laws_eqByteS.f k a a = some true := by
  rw [laws_eqByteS_eq a a (by omega) (by omega)]; simp
theorem laws_markByteS_l0 (s : Int) (s0 : 0 ≤ s) (s1 : s ≤ 1000000000000) : ∀ (j k i : Nat) (x : List Int), x.length ≤ 1000000000000 → x.length - i ≤ j → j < k → i ≤ x.length → (∀ p, p < i → x[p]? = some ((s + ((p : Nat) : Int)) % 256)) →
    ∃ x', laws_markByteS.l0 k x (s + (i : Int)) (i : Int) = some (s + (x.length : Int), x') ∧ x'.length = x.length ∧ ∀ p, p < x.length → x'[p]? = some ((s + ((p : Nat) : Int)) % 256) := by
  intro j
  induction j with
  | zero =>
    intro k i x hl hi hk hix hp
    obtain ⟨k, rfl⟩ : ∃ m, k = m + 1 := ⟨k - 1, by omega⟩
    simp only [laws_markByteS.l0]
    rw [if_neg (by omega), show (i : Int) = (x.length : Int) by omega]
    exact ⟨x, rfl, rfl, fun p h => hp p (by omega)⟩
  | succ j ih =>
    intro k i x hl hi hk hix hp
    obtain ⟨k, rfl⟩ : ∃ m, k = m + 1 := ⟨k - 1, by omega⟩
    simp only [laws_markByteS.l0]
    by_cases h : i < x.length
    · have e1 : wrap64 (s + (i : Int) + 1) = s + ((i + 1 : Nat) : Int) := by rw [w64 (by omega) (by omega)]; omega
      rw [if_pos (by omega), if_pos (by omega), e1, nxt (by omega), show ((i : Int)).toNat = i from rfl]
      have hih := ih k (i + 1) (x.set i ((s + ((i : Nat) : Int)) % 256)) (by rw [List.length_set]; exact hl) (by rw [List.length_set]; omega) (by omega) (by rw [List.length_set]; omega) (fun p hpi => by
        rw [List.getElem?_set]
        by_cases e : i = p
        · subst e; rw [if_pos rfl, if_pos h]
        · rw [if_neg e]; exact hp p (by omega))
      rw [List.length_set] at hih
      exact hih
    · rw [if_neg (by omega), show (i : Int) = (x.length : Int) by omega]
      exact ⟨x, rfl, rfl, fun p h => hp p (by omega)⟩
theorem laws_markByteS_ok {k : Nat} (s : Int) (s0 : 0 ≤ s) (s1 : s ≤ 1000000000000) (x : List Int) (hl : x.length ≤ 1000000000000) (hk : x.length < k) :
    ∃ x', laws_markByteS.f k x s = some (s + (x.length : Int), x') ∧ x'.length = x.length ∧ ∀ p, p < x.length → x'[p]? = some ((s + ((p : Nat) : Int)) % 256) := by
  unfold laws_markByteS.f
  have h := laws_markByteS_l0 s s0 s1 x.length k 0 x hl (by omega) hk (by omega) (fun p hp => by omega)
  rw [show s + ((0 : Nat) : Int) = s by omega] at h
  exact h
theorem laws_heldByteS_l0 (s : Int) (s0 : 0 ≤ s) (s1 : s ≤ 1000000000000) (x : List Int) (hl : x.length ≤ 1000000000000) (hp : ∀ p, p < x.length → x[p]? = some ((s + ((p : Nat) : Int)) % 256)) : ∀ (j k i : Nat), x.length - i ≤ j → j < k → i ≤ x.length →
    laws_heldByteS.l0 k x (s + (i : Int)) (i : Int) = some (s + (x.length : Int)) := by
  intro j
  induction j with
  | zero =>
    intro k i hi hk hix
    obtain ⟨k, rfl⟩ : ∃ m, k = m + 1 := ⟨k - 1, by omega⟩
    simp only [laws_heldByteS.l0]
    rw [if_neg (by omega), show (i : Int) = (x.length : Int) by omega]
  | succ j ih =>
    intro k i hi hk hix
    obtain ⟨k, rfl⟩ : ∃ m, k = m + 1 := ⟨k - 1, by omega⟩
    simp only [laws_heldByteS.l0]
    by_cases h : i < x.length
    · have e1 : wrap64 (s + (i : Int) + 1) = s + ((i + 1 : Nat) : Int) := by rw [w64 (by omega) (by omega)]; omega
      have e2 : rd x (i : Int) = (s + ((i : Nat) : Int)) % 256 := by rw [rd_nat, hp i h]; rfl
      rw [if_pos (by omega), if_pos (by omega), if_pos e2, e1, nxt (by omega)]
      exact ih k (i + 1) (by omega) (by omega) (by omega)
    · rw [if_neg (by omega), show (i : Int) = (x.length : Int) by omega]
theorem laws_heldByteS_ok {k : Nat} (s : Int) (s0 : 0 ≤ s) (s1 : s ≤ 1000000000000) (x : List Int) (n : Nat) (hn : x.length = n) (hl : n ≤ 1000000000000) (hk : n < k) (hp : ∀ p, p < n → x[p]? = some ((s + ((p : Nat) : Int)) % 256)) : laws_heldByteS.f k x s = some (s + (n : Int)) := by
  subst hn
  unfold laws_heldByteS.f
  have h := laws_heldByteS_l0 s s0 s1 x hl hp x.length k 0 (by omega) hk (by omega)
  rw [show s + ((0 : Nat) : Int) = s by omega] at h
  exact h
theorem spec_l1In_eq (a b c : Int) : spec_l1In.f a b c = some (decide (b ≤ a ∧ a ≤ c)) := by
  unfold spec_l1In.f
  by_cases h : b ≤ a
  · rw [if_pos h]; simp [h]
  · rw [if_neg (by omega)]; simp [h]
theorem spec_AppendUvarint_l0 : ∀ (f k : Nat) (n : Int) (x : List Int), f + 2 ≤ k → 0 ≤ n → n < 128 ^ (f + 1) → n ≤ 1000000000000 → x.length + f ≤ 100000000000000 → spec_AppendUvarint.l0 k n x = some (x ++ AV f n) := by
  intro f
  induction f with
  | zero =>
    intro k n x hk h0 h1 h2 hx
    obtain ⟨k, rfl⟩ : ∃ m, k = m + 1 := ⟨k - 1, by omega⟩
    have e : (128 : Int) ^ (0 + 1) = 128 := by decide
    simp only [spec_AppendUvarint.l0, AV]
    rw [if_neg (by omega), if_pos (by omega), show n % 256 = n by omega]
  | succ f ih =>
    intro k n x hk h0 h1 h2 hx
    obtain ⟨k, rfl⟩ : ∃ m, k = m + 1 := ⟨k - 1, by omega⟩
    simp only [spec_AppendUvarint.l0]
    by_cases h : 128 ≤ n
    · have h5 : n / 128 < 128 ^ (f + 1) := by
        rw [Int.pow_succ] at h1
        exact Int.ediv_lt_of_lt_mul (by omega) h1
      have ea : Go.bits .and .i64 n 127 = n % 128 := and127 h0 (by omega)
      have eb : Go.bits .or .i64 (Go.bits .and .i64 n 127) 128 % 256 = n % 128 + 128 := by
        rw [ea, or_join 7 (by omega) (by omega) (by omega) (by omega) (by omega) (by omega)]; omega
      rw [if_pos (by omega), if_pos (by omega), eb, ih k (n / 128) _ (by omega) (by omega) h5 (by omega) (by simp; omega)]
      simp only [AV]
      rw [if_pos h, List.append_assoc]; rfl
    · rw [if_neg (by omega), if_pos (by omega), AV_small _ (by omega), show n % 256 = n by omega]

theorem spec_AppendUvarint_eq {k : Nat} (hk : 100 ≤ k) (b : List Int) (n : Int) (hb : b.length ≤ 1000000000000) : spec_AppendUvarint.f k b n = some (AU b n) := by
  unfold spec_AppendUvarint.f AU
  simp only [Option.bind_some, List.nil_append, spec_l1In_eq]
  rw [if_pos (by simp; omega)]
  by_cases h : 0 ≤ n ∧ n ≤ 1000000000000
  · rw [if_pos (by simpa using h), if_pos h]
    exact spec_AppendUvarint_l0 5 k n b (by omega) h.1 (by rw [pow_128_6]; omega) h.2 (by omega)
  · rw [if_neg (by simpa using h), if_neg h]
theorem spec_EncodeInts_l0 (l : List Int) (hl : l.length ≤ 1000000000) : ∀ (j k i : Nat) (x : List Int), l.length - i ≤ j → j + 100 < k → x.length + 6 * (l.length - i) ≤ 100000000000 → spec_EncodeInts.l0 k l x (i : Int) = some (EI x (l.drop i)) := by
  intro j
  induction j with
  | zero =>
    intro k i x hi hk hx
    obtain ⟨k, rfl⟩ : ∃ m, k = m + 1 := ⟨k - 1, by omega⟩
    simp only [spec_EncodeInts.l0]
    rw [if_neg (by omega), List.drop_eq_nil_of_le (by omega)]; rfl
  | succ j ih =>
    intro k i x hi hk hx
    obtain ⟨k, rfl⟩ : ∃ m, k = m + 1 := ⟨k - 1, by omega⟩
    simp only [spec_EncodeInts.l0]
    by_cases h : i < l.length
    · have ha := AU_length x l[i]
      rw [if_pos (by omega), if_pos (by omega), rd_at h, spec_AppendUvarint_eq (by omega) x _ (by omega)]; simp only [Option.bind_some]
      rw [nxt (by omega), ih k (i + 1) _ (by omega) (by omega) (by omega), List.drop_eq_getElem_cons h]; rfl
    · rw [if_neg (by omega), List.drop_eq_nil_of_le (by omega)]; rfl
theorem spec_EncodeInts_eq {k : Nat} (l : List Int) (hl : l.length ≤ 1000000000) (hk : l.length + 100 < k) : spec_EncodeInts.f k l = some (EI [] l) := by
  unfold spec_EncodeInts.f
  exact spec_EncodeInts_l0 l hl l.length k 0 _ (by omega) hk (by simp; omega)
theorem impl_copyBytes_eq (l : List Int) (hl : l.length ≤ 1000000000000) : impl_copyBytes.f l = some l := by
  unfold impl_copyBytes.f
  simp only [Option.bind_some, List.nil_append]
  rw [if_pos (by simp; omega)]
theorem impl_AppendUvarint_l0 : ∀ (f k : Nat) (n : Int) (x : List Int), f + 2 ≤ k → 0 ≤ n → n < 128 ^ (f + 1) → n ≤ 1000000000000 → x.length + f ≤ 100000000000000 → impl_AppendUvarint.l0 k n x = some (x ++ AV f n) := by
  intro f
  induction f with
  | zero =>
    intro k n x hk h0 h1 h2 hx
    obtain ⟨k, rfl⟩ : ∃ m, k = m + 1 := ⟨k - 1, by omega⟩
    have e : (128 : Int) ^ (0 + 1) = 128 := by decide
    simp only [impl_AppendUvarint.l0, AV]
    rw [if_neg (by omega), if_pos (by omega), show n % 256 = n by omega]
  | succ f ih =>
    intro k n x hk h0 h1 h2 hx
    obtain ⟨k, rfl⟩ : ∃ m, k = m + 1 := ⟨k - 1, by omega⟩
    simp only [impl_AppendUvarint.l0]
    by_cases h : 128 ≤ n
    · have h5 : n / 128 < 128 ^ (f + 1) := by
        rw [Int.pow_succ] at h1
        exact Int.ediv_lt_of_lt_mul (by omega) h1
      have eb : wrap64 (Int.tmod n 128 + 128) % 256 = n % 128 + 128 := by
        rw [Int.tmod_eq_emod_of_nonneg h0, w64 (by omega) (by omega)]; omega
      have ed : wrap64 (Int.tdiv n 128) = n / 128 := by
        rw [Int.tdiv_eq_ediv_of_nonneg h0, w64 (by omega) (by omega)]
      rw [if_pos (by omega), if_pos (by omega), eb, ed, ih k (n / 128) _ (by omega) (by omega) h5 (by omega) (by simp; omega)]
      simp only [AV]
      rw [if_pos h, List.append_assoc]; rfl
    · rw [if_neg (by omega), if_pos (by omega), AV_small _ (by omega), show n % 256 = n by omega]

theorem impl_AppendUvarint_eq {k : Nat} (hk : 100 ≤ k) (b : List Int) (n : Int) (hb : b.length ≤ 1000000000000) : impl_AppendUvarint.f k b n = some (AU b n) := by
  unfold impl_AppendUvarint.f AU
  rw [impl_copyBytes_eq b hb]; simp only [Option.bind_some]
  obtain ⟨k, rfl⟩ : ∃ m, k = m + 1 := ⟨k - 1, by omega⟩
  simp only [impl_AppendUvarint.j0]
  by_cases h : 0 ≤ n ∧ n ≤ 1000000000000
  · rw [if_neg (by omega), if_neg (by simp; omega), if_pos h]
    exact impl_AppendUvarint_l0 5 k n b (by omega) h.1 (by rw [pow_128_6]; omega) h.2 (by omega)
  · rw [if_neg h]
    by_cases h1 : n < 0
    · rw [if_pos h1, if_pos (by simp)]
    · rw [if_neg h1, if_pos (by simp; omega)]
theorem impl_EncodeInts_l0 (l : List Int) (hl : l.length ≤ 1000000000) : ∀ (j k i : Nat) (x : List Int), l.length - i ≤ j → j + 100 < k → x.length + 6 * (l.length - i) ≤ 100000000000 → impl_EncodeInts.l0 k x l (l.length : Int) (i : Int) = some (EI x (l.drop i)) := by
  intro j
  induction j with
  | zero =>
    intro k i x hi hk hx
    obtain ⟨k, rfl⟩ : ∃ m, k = m + 1 := ⟨k - 1, by omega⟩
    simp only [impl_EncodeInts.l0]
    rw [if_neg (by omega), List.drop_eq_nil_of_le (by omega)]; rfl
  | succ j ih =>
    intro k i x hi hk hx
    obtain ⟨k, rfl⟩ : ∃ m, k = m + 1 := ⟨k - 1, by omega⟩
    simp only [impl_EncodeInts.l0]
    by_cases h : i < l.length
    · have ha := AU_length x l[i]
      rw [if_pos (by omega), if_pos (by omega), if_pos (by omega), rd_at h, impl_AppendUvarint_eq (by omega) x _ (by omega)]; simp only [Option.bind_some]
      rw [nxt (by omega), ih k (i + 1) _ (by omega) (by omega) (by omega), List.drop_eq_getElem_cons h]; rfl
    · rw [if_neg (by omega), List.drop_eq_nil_of_le (by omega)]; rfl
theorem impl_EncodeInts_eq {k : Nat} (l : List Int) (hl : l.length ≤ 1000000000) (hk : l.length + 100 < k) : impl_EncodeInts.f k l = some (EI [] l) := by
  unfold impl_EncodeInts.f
  exact impl_EncodeInts_l0 l hl l.length k 0 _ (by omega) hk (by simp; omega)
theorem laws_markIntS_l0 (s : Int) (s0 : 0 ≤ s) (s1 : s ≤ 1000000000000) : ∀ (j k i : Nat) (x : List Int), x.length ≤ 1000000000000 → x.length - i ≤ j → j < k → i ≤ x.length → (∀ p, p < i → x[p]? = some (s + ((p : Nat) : Int))) →
    ∃ x', laws_markIntS.l0 k x (s + (i : Int)) (i : Int) = some (s + (x.length : Int), x') ∧ x'.length = x.length ∧ ∀ p, p < x.length → x'[p]? = some (s + ((p : Nat) : Int)) := by
  intro j
  induction j with
  | zero =>
    intro k i x hl hi hk hix hp
    obtain ⟨k, rfl⟩ : ∃ m, k = m + 1 := ⟨k - 1, by omega⟩
    simp only [laws_markIntS.l0]
    rw [if_neg (by omega), show (i : Int) = (x.length : Int) by omega]
    exact ⟨x, rfl, rfl, fun p h => hp p (by omega)⟩
  | succ j ih =>
    intro k i x hl hi hk hix hp
    obtain ⟨k, rfl⟩ : ∃ m, k = m + 1 := ⟨k - 1, by omega⟩
    simp only [laws_markIntS.l0]
    by_cases h : i < x.length
    · have e1 : wrap64 (s + (i : Int) + 1) = s + ((i + 1 : Nat) : Int) := by rw [w64 (by omega) (by omega)]; omega
      rw [if_pos (by omega), if_pos (by omega), e1, nxt (by omega), show ((i : Int)).toNat = i from rfl]
      have hih := ih k (i + 1) (x.set i (s + ((i : Nat) : Int))) (by rw [List.length_set]; exact hl) (by rw [List.length_set]; omega) (by omega) (by rw [List.length_set]; omega) (fun p hpi => by
        rw [List.getElem?_set]
        by_cases e : i = p
        · subst e; rw [if_pos rfl, if_pos h]
        · rw [if_neg e]; exact hp p (by omega))
      rw [List.length_set] at hih
      exact hih
    · rw [if_neg (by omega), show (i : Int) = (x.length : Int) by omega]
      exact ⟨x, rfl, rfl, fun p h => hp p (by omega)⟩
theorem laws_markIntS_ok {k : Nat} (s : Int) (s0 : 0 ≤ s) (s1 : s ≤ 1000000000000) (x : List Int) (hl : x.length ≤ 1000000000000) (hk : x.length < k) :
    ∃ x', laws_markIntS.f k x s = some (s + (x.length : Int), x') ∧ x'.length = x.length ∧ ∀ p, p < x.length → x'[p]? = some (s + ((p : Nat) : Int)) := by
  unfold laws_markIntS.f
  have h := laws_markIntS_l0 s s0 s1 x.length k 0 x hl (by omega) hk (by omega) (fun p hp => by omega)
  rw [show s + ((0 : Nat) : Int) = s by omega] at h
  exact h
theorem proved : laws_FnExactEncodeInts.Pure := by
  intro l0 _ _ hb
  obtain ⟨K, hK⟩ : ∃ K : Nat, 1000000000 ≤ K := ⟨_, Nat.le_refl _⟩
  refine ⟨K, ?_⟩
  unfold laws_FnExactEncodeInts.f
  rcases Nat.lt_or_ge 1048576 l0.length with h_l0 | h_l0
  · rw [if_pos (by omega)]
  rw [if_neg (by omega)]
  have ha := EI_length l0 []
  simp only [List.length_nil] at ha
  have hto_l0 : ∀ k, 100000000 ≤ k → laws_toIntS.f k l0 = some l0 := fun k hk => laws_toIntS_eq l0 h_l0 (by omega)
  have hsa_l0 := laws_eqIntS_self (k := K) l0 h_l0 (by omega)
  have hs : spec_EncodeInts.f K l0 = some (EI [] l0) := spec_EncodeInts_eq l0 (by omega) (by omega)
  have hi : ∀ k, 100000000 ≤ k → impl_EncodeInts.f k l0 = some (EI [] l0) := fun k hk => impl_EncodeInts_eq l0 (by omega) (by omega)
  have hlen : (EI [] l0).length ≤ 10000000 := by omega
  generalize EI [] l0 = r at *
  have hq : ∀ k, 100000000 ≤ k → laws_eqByteS.f k r r = some true := fun k hk => by rw [laws_eqByteS_eq r r (by omega) (by omega)]; simp
  have hm : ∀ k, 100000000 ≤ k → ∃ r', laws_markByteS.f k r 1 = some (1 + (r.length : Int), r') ∧ ∀ k', 100000000 ≤ k' → laws_heldByteS.f k' r' 1 = some (1 + (r.length : Int)) := by
    intro k hk
    obtain ⟨r', e1, e2, e3⟩ := laws_markByteS_ok (k := k) 1 (by omega) (by omega) r (by omega) (by omega)
    exact ⟨r', e1, fun k' hk' => laws_heldByteS_ok 1 (by omega) (by omega) r' r.length e2 (by omega) (by omega) e3⟩
  have hnr : ¬ (1 + (r.length : Int) < 0) := by omega
  have hj : laws_FnExactEncodeInts.j0 K l0 r r false = some true := by
    obtain ⟨k, rfl⟩ : ∃ j, K = j + 1 := ⟨K - 1, by omega⟩
    obtain ⟨r', e1, e2⟩ := hm k (by omega)
    simp only [laws_FnExactEncodeInts.j0]
    rw [if_neg (by simp)]
    simp only [e1, e2 k (by omega), hto_l0 k (by omega), hi k (by omega), hq k (by omega), Option.bind_some]
    simp only [↓reduceIte, hnr]
  obtain ⟨x_l0, e_l0, _⟩ := laws_markIntS_ok (k := K) (1) (by omega) (by omega) l0 (by omega) (by omega)
  have hn1 : ¬ (1 + (l0.length : Int) < 0) := by omega
  simp only [hto_l0 K (by omega), hsa_l0, hs, hi K (by omega), hq K (by omega), e_l0, Option.bind_some]
  simp only [↓reduceIte, hn1, Bool.not_true, hj]
end KFnExactEncodeInts
theorem FnExactEncodeInts : laws_FnExactEncodeInts.Pure := KFnExactEncodeInts.proved
end Go.Proofs.Ytipdmghnabchaaa.Pure
