/- the program's DecodeInts answers as the reference's, leaves its arguments alone and shares no memory with them. -/
import Derived.Test.YtipdmghnabchaaaPFnExactDecodeIntsx4
import Derived.Test.YtipdmghnabchaaaNum4
set_option linter.unusedVariables false
set_option linter.unusedSimpArgs false
namespace Go.Proofs.Ytipdmghnabchaaa.Pure
open Go.RowKit Go.Proofs.Ytipdmghnabchaaa.PFnExactDecodeInts Go.Proofs.YtipdmghnabchaaaW.PrintWords Go.Proofs.YtipdmghnabchaaaW.PrintLast Go.Proofs.Ytipdmghnabchaaa.Num
namespace KFnExactDecodeInts
theorem laws_eqIntS_l0 (a b : List Int) (hl : a.length = b.length) (hm : a.length ≤ 4611686018427387904) : ∀ (j k i : Nat), a.length - i ≤ j → j < k → laws_eqIntS.l0 k a b (i : Int) = some (decide (a.drop i = b.drop i)) := by
  intro j
  induction j with
  | zero =>
    intro k i hi hk
    obtain ⟨k, rfl⟩ : ∃ m, k = m + 1 := ⟨k - 1, by omega⟩
    simp only [laws_eqIntS.l0]
    rw [if_neg (by omega), List.drop_eq_nil_of_le (by omega), List.drop_eq_nil_of_le (by omega)]; simp
  | succ j ih =>
    intro k i hi hk
    obtain ⟨k, rfl⟩ : ∃ m, k = m + 1 := ⟨k - 1, by omega⟩
    simp only [laws_eqIntS.l0]
    by_cases h : i < a.length
    · have hb : i < b.length := by omega
      rw [if_pos (by omega), if_pos (by omega), if_pos (by omega), nxt (by omega), rd_at h, rd_at hb, ih k (i + 1) (by omega) (by omega), List.drop_eq_getElem_cons h, List.drop_eq_getElem_cons hb]
      by_cases e : a[i] = b[i]
      · rw [if_pos e]; congr 1; rw [decide_eq_decide]; exact ⟨fun h1 => by rw [e, h1], fun h1 => (List.cons.inj h1).2⟩
      · rw [if_neg e]; congr 1; symm; rw [decide_eq_false_iff_not]; exact fun h1 => e (List.cons.inj h1).1
    · rw [if_neg (by omega), List.drop_eq_nil_of_le (by omega), List.drop_eq_nil_of_le (by omega)]; simp
theorem laws_eqIntS_eq {k : Nat} (a b : List Int) (hm : a.length ≤ 4611686018427387904) (hk : a.length < k) : laws_eqIntS.f k a b = some (decide (a = b)) := by
  unfold laws_eqIntS.f
  by_cases h : a.length = b.length
  · rw [if_pos (by omega)]
    exact laws_eqIntS_l0 a b h hm a.length k 0 (by omega) hk
  · rw [if_neg (by omega)]
    have : a ≠ b := fun e => h (by rw [e])
    simp [this]
theorem laws_eqIntS_self {k : Nat} (a : List Int) (hm : a.length ≤ 1048576) (hk : 1048576 < k) : laws_eqIntS.f k a a = some true := by
  rw [laws_eqIntS_eq a a (by omega) (by omega)]; simp
theorem laws_toByteS_l0 (l : List Int) (hl : l.length ≤ 4611686018427387904) : ∀ (j k i : Nat) (x : List Int), l.length - i ≤ j → j < k → x.length = l.length → (∀ p, p < i → x[p]? = l[p]?) → laws_toByteS.l0 k l x (i : Int) = some l := by
  intro j
  induction j with
  | zero =>
    intro k i x hi hk hx hp
    obtain ⟨k, rfl⟩ : ∃ m, k = m + 1 := ⟨k - 1, by omega⟩
    simp only [laws_toByteS.l0]
    rw [if_neg (by omega)]
    congr 1
    apply List.ext_getElem?
    intro p
    by_cases h : p < i
    · exact hp p h
    · rw [List.getElem?_eq_none (by omega), List.getElem?_eq_none (by omega)]
  | succ j ih =>
    intro k i x hi hk hx hp
    obtain ⟨k, rfl⟩ : ∃ m, k = m + 1 := ⟨k - 1, by omega⟩
    simp only [laws_toByteS.l0]
    by_cases h : i < l.length
    · rw [if_pos (by omega), if_pos (by omega), if_pos (by omega), nxt (by omega), rd_at h]
      refine ih k (i + 1) _ (by omega) (by omega) (by rw [List.length_set]; exact hx) (fun p hpi => ?_)
      rw [show ((i : Int)).toNat = i from rfl, List.getElem?_set]
      by_cases e : i = p
      · subst e
        rw [if_pos (by simp), if_pos (by omega), List.getElem?_eq_getElem h]
      · rw [if_neg e]
        exact hp p (by omega)
    · rw [if_neg (by omega)]
      congr 1
      apply List.ext_getElem?
      intro p
      by_cases h : p < i
      · exact hp p h
      · rw [List.getElem?_eq_none (by omega), List.getElem?_eq_none (by omega)]
theorem laws_toByteS_eq {k : Nat} (l : List Int) (hl : l.length ≤ 1048576) (hk : 1048576 < k) : laws_toByteS.f k l = some l := by
  unfold laws_toByteS.f
  rw [if_pos (by omega), if_pos (by omega)]
  exact laws_toByteS_l0 l (by omega) l.length k 0 _ (by omega) (by omega) (by simp) (fun p hp => by omega)
theorem laws_eqByteS_l0 (a b : List Int) (hl : a.length = b.length) (hm : a.length ≤ 4611686018427387904) : ∀ (j k i : Nat), a.length - i ≤ j → j < k → laws_eqByteS.l0 k a b (i : Int) = some (decide (a.drop i = b.drop i)) := by
  intro j
  induction j with
  | zero =>
    intro k i hi hk
    obtain ⟨k, rfl⟩ : ∃ m, k = m + 1 := ⟨k - 1, by omega⟩
    simp only [laws_eqByteS.l0]
    rw [if_neg (by omega), List.drop_eq_nil_of_le (by omega), List.drop_eq_nil_of_le (by omega)]; simp
  | succ j ih =>
    intro k i hi hk
    obtain ⟨k, rfl⟩ : ∃ m, k = m + 1 := ⟨k - 1, by omega⟩
    simp only [laws_eqByteS.l0]
    by_cases h : i < a.length
    · have hb : i < b.length := by omega
      rw [if_pos (by omega), if_pos (by omega), if_pos (by omega), nxt (by omega), rd_at h, rd_at hb, ih k (i + 1) (by omega) (by omega), List.drop_eq_getElem_cons h, List.drop_eq_getElem_cons hb]
      by_cases e : a[i] = b[i]
      · rw [if_pos e]; congr 1; rw [decide_eq_decide]; exact ⟨fun h1 => by rw [e, h1], fun h1 => (List.cons.inj h1).2⟩
      · rw [if_neg e]; congr 1; symm; rw [decide_eq_false_iff_not]; exact fun h1 => e (List.cons.inj h1).1
    · rw [if_neg (by omega), List.drop_eq_nil_of_le (by omega), List.drop_eq_nil_of_le (by omega)]; simp
theorem laws_eqByteS_eq {k : Nat} (a b : List Int) (hm : a.length ≤ 4611686018427387904) (hk : a.length < k) : laws_eqByteS.f k a b = some (decide (a = b)) := by
  unfold laws_eqByteS.f
  by_cases h : a.length = b.length
  · rw [if_pos (by omega)]
    exact laws_eqByteS_l0 a b h hm a.length k 0 (by omega) hk
  · rw [if_neg (by omega)]
    have : a ≠ b := fun e => h (by rw [e])
    simp [this]
theorem laws_eqByteS_self {k : Nat} (a : List Int) (hm : a.length ≤ 1048576) (hk : 1048576 < k) : laws_eqByteS.f k a a = some true := by
  rw [laws_eqByteS_eq a a (by omega) (by omega)]; simp
theorem laws_markByteS_l0 (s : Int) (s0 : 0 ≤ s) (s1 : s ≤ 1000000000000) : ∀ (j k i : Nat) (x : List Int), x.length ≤ 1000000000000 → x.length - i ≤ j → j < k → i ≤ x.length → (∀ p, p < i → x[p]? = some ((s + ((p : Nat) : Int)) % 256)) →
    ∃ x', laws_markByteS.l0 k x (s + (i : Int)) (i : Int) = some (s + (x.length : Int), x') ∧ x'.length = x.length ∧ ∀ p, p < x.length → x'[p]? = some ((s + ((p : Nat) : Int)) % 256) := by
  intro j
  induction j with
  | zero =>
    intro k i x hl hi hk hix hp
    obtain ⟨k, rfl⟩ : ∃ m, k = m + 1 := ⟨k - 1, by omega⟩
    simp only [laws_markByteS.l0]
    rw [if_neg (by omega), show (i : Int) = (x.length : Int) by omega]
    exact ⟨x, rfl, rfl, fun p h => hp p (by omega)⟩
  | succ j ih =>
    intro k i x hl hi hk hix hp
    obtain ⟨k, rfl⟩ : ∃ m, k = m + 1 := ⟨k - 1, by omega⟩
    simp only [laws_markByteS.l0]
    by_cases h : i < x.length
    · have e1 : wrap64 (s + (i : Int) + 1) = s + ((i + 1 : Nat) : Int) := by rw [w64 (by omega) (by omega)]; omega
      rw [if_pos (by omega), if_pos (by omega), e1, nxt (by omega), show ((i : Int)).toNat = i from rfl]
      have hih := ih k (i + 1) (x.set i ((s + ((i : Nat) : Int)) % 256)) (by rw [List.length_set]; exact hl) (by rw [List.length_set]; omega) (by omega) (by rw [List.length_set]; omega) (fun p hpi => by
        rw [List.getElem?_set]
        by_cases e : i = p
        · subst e; rw [if_pos rfl, if_pos h]
        · rw [if_neg e]; exact hp p (by omega))
      rw [List.length_set] at hih
      exact hih
    · rw [if_neg (by omega), show (i : Int) = (x.length : Int) by omega]
      exact ⟨x, rfl, rfl, fun p h => hp p (by omega)⟩
theorem laws_markByteS_ok {k : Nat} (s : Int) (s0 : 0 ≤ s) (s1 : s ≤ 1000000000000) (x : List Int) (hl : x.length ≤ 1000000000000) (hk : x.length < k) :
    ∃ x', laws_markByteS.f k x s = some (s + (x.length : Int), x') ∧ x'.length = x.length ∧ ∀ p, p < x.length → x'[p]? = some ((s + ((p : Nat) : Int)) % 256) := by
  unfold laws_markByteS.f
  have h := laws_markByteS_l0 s s0 s1 x.length k 0 x hl (by omega) hk (by omega) (fun p hp => by omega)
  rw [show s + ((0 : Nat) : Int) = s by omega] at h
  exact h
theorem laws_markIntS_l0 (s : Int) (s0 : 0 ≤ s) (s1 : s ≤ 1000000000000) : ∀ (j k i : Nat) (x : List Int), x.length ≤ 1000000000000 → x.length - i ≤ j → j < k → i ≤ x.length → (∀ p, p < i → x[p]? = some (s + ((p : Nat) : Int))) →
    ∃ x', laws_markIntS.l0 k x (s + (i : Int)) (i : Int) = some (s + (x.length : Int), x') ∧ x'.length = x.length ∧ ∀ p, p < x.length → x'[p]? = some (s + ((p : Nat) : Int)) := by
  intro j
  induction j with
  | zero =>
    intro k i x hl hi hk hix hp
    obtain ⟨k, rfl⟩ : ∃ m, k = m + 1 := ⟨k - 1, by omega⟩
    simp only [laws_markIntS.l0]
    rw [if_neg (by omega), show (i : Int) = (x.length : Int) by omega]
    exact ⟨x, rfl, rfl, fun p h => hp p (by omega)⟩
  | succ j ih =>
    intro k i x hl hi hk hix hp
    obtain ⟨k, rfl⟩ : ∃ m, k = m + 1 := ⟨k - 1, by omega⟩
    simp only [laws_markIntS.l0]
    by_cases h : i < x.length
    · have e1 : wrap64 (s + (i : Int) + 1) = s + ((i + 1 : Nat) : Int) := by rw [w64 (by omega) (by omega)]; omega
      rw [if_pos (by omega), if_pos (by omega), e1, nxt (by omega), show ((i : Int)).toNat = i from rfl]
      have hih := ih k (i + 1) (x.set i (s + ((i : Nat) : Int))) (by rw [List.length_set]; exact hl) (by rw [List.length_set]; omega) (by omega) (by rw [List.length_set]; omega) (fun p hpi => by
        rw [List.getElem?_set]
        by_cases e : i = p
        · subst e; rw [if_pos rfl, if_pos h]
        · rw [if_neg e]; exact hp p (by omega))
      rw [List.length_set] at hih
      exact hih
    · rw [if_neg (by omega), show (i : Int) = (x.length : Int) by omega]
      exact ⟨x, rfl, rfl, fun p h => hp p (by omega)⟩
theorem laws_markIntS_ok {k : Nat} (s : Int) (s0 : 0 ≤ s) (s1 : s ≤ 1000000000000) (x : List Int) (hl : x.length ≤ 1000000000000) (hk : x.length < k) :
    ∃ x', laws_markIntS.f k x s = some (s + (x.length : Int), x') ∧ x'.length = x.length ∧ ∀ p, p < x.length → x'[p]? = some (s + ((p : Nat) : Int)) := by
  unfold laws_markIntS.f
  have h := laws_markIntS_l0 s s0 s1 x.length k 0 x hl (by omega) hk (by omega) (fun p hp => by omega)
  rw [show s + ((0 : Nat) : Int) = s by omega] at h
  exact h
theorem spec_ReadUvarint_l0 (l : List Int) (hb : ∀ x ∈ l, 0 ≤ x ∧ x ≤ 255) (hl : l.length ≤ 1000000000000) (o : Nat) : ∀ (f k i : Nat) (n w : Int), f + i = 6 → 2 * f < k → Wt i w → 0 ≤ n → n < w →
    spec_ReadUvarint.l0 k l (o : Int) n (i : Int) = some (out (o : Int) (RV f (l.drop (o + i)) n w i)) := by
  intro f
  induction f with
  | zero =>
    intro k i n w hf hk hw h0 h1
    obtain ⟨k, rfl⟩ : ∃ m, k = m + 1 := ⟨k - 1, by omega⟩
    simp only [spec_ReadUvarint.l0, RV]
    rw [if_neg (by omega)]; rfl
  | succ f ih =>
    intro k i n w hf hk hw h0 h1
    obtain ⟨k, rfl⟩ : ∃ m, k = m + 2 := ⟨k - 2, by omega⟩
    have e0 : wrap64 ((l.length : Int) - (i : Int)) = (l.length : Int) - (i : Int) := w64 (by omega) (by omega)
    simp only [spec_ReadUvarint.l0]
    rw [if_pos (by omega), if_neg (by omega), e0]
    simp only [spec_ReadUvarint.j1]
    have q1 : f + (i + 1) = 6 := by omega
    have q2 : 2 * f < k := by omega
    have q3 : i < 6 := by omega
    have q4 : (i : Int) > 0 → 0 < i := fun h => by omega
    have q5 : ¬ (i : Int) > 0 → i = 0 := fun h => by omega
    have q6 : i ≤ 9223372036854775806 := by omega
    by_cases h : o + i < l.length
    · have e : wrap64 ((o : Int) + (i : Int)) = ((o + i : Nat) : Int) := by rw [w64 (by omega) (by omega)]; omega
      have hv := hb _ (List.getElem_mem h)
      have hi6 : i < 6 := by omega
      rw [if_neg (by simp; omega), e, if_pos (by omega), if_pos (by omega), if_pos (by rw [w64 (by omega) (by omega)]; omega), rd_at h, List.drop_eq_getElem_cons h]
      generalize l[o + i] = c at hv
      have ec : wrap64 c = c := w64 (by omega) (by omega)
      have en : wrap64 (((o + i : Nat) : Int) + 1) = (o : Int) + ((i + 1 : Nat) : Int) := by rw [w64 (by omega) (by omega)]; omega
      have ea : Go.bits .and .i64 c 127 = c % 128 := and127 hv.1 (by omega)
      rw [ec, en, ea, shl_at hw hi6 (by omega) (by omega), or_at hw hi6 h0 h1 (by omega) (by omega)]
      simp only [RV]
      by_cases hc : c < 128
      · have et : c % 128 = c := by omega
        rw [if_pos hc, if_pos hc, et]
        generalize n + c * w = z
        by_cases h2 : c = 0
        · rw [if_pos h2]
          by_cases hi : (i : Int) > 0
          · rw [if_pos hi, if_pos (show (0 < i ∧ c = 0) ∨ z > 1000000000000 from Or.inl ⟨q4 hi, h2⟩)]; rfl
          · rw [if_neg hi]
            by_cases h3 : z > 1000000000000
            · rw [if_pos h3, if_pos (show (0 < i ∧ c = 0) ∨ z > 1000000000000 from Or.inr h3)]; rfl
            · rw [if_neg h3, if_neg (fun h4 => h4.elim (fun h5 => absurd (q5 hi) (Nat.pos_iff_ne_zero.1 h5.1)) h3)]; rfl
        · rw [if_neg h2]
          by_cases h3 : z > 1000000000000
          · rw [if_pos h3, if_pos (show (0 < i ∧ c = 0) ∨ z > 1000000000000 from Or.inr h3)]; rfl
          · rw [if_neg h3, if_neg (fun h4 => h4.elim (fun h5 => h2 h5.2) h3)]; rfl
      · have hg := group_bound hw h0 h1 (show 0 ≤ c - 128 by omega) (show c - 128 ≤ 127 by omega)
        have et : c % 128 = c - 128 := by omega
        rw [if_neg hc, if_neg hc, et, nxt q6]
        exact ih k (i + 1) _ _ q1 q2 (hw.next q3) (Int.add_nonneg h0 hg.1) hg.2.2.1
    · rw [if_pos (by simp; omega), List.drop_eq_nil_of_le (by omega)]; rfl
theorem spec_ReadUvarint_eq {k : Nat} (hk : 100 ≤ k) (l : List Int) (hb : ∀ x ∈ l, 0 ≤ x ∧ x ≤ 255) (hl : l.length ≤ 1000000000000) (o : Int) : spec_ReadUvarint.f k l o = some (RU l o) := by
  unfold spec_ReadUvarint.f RU
  by_cases h0 : o < 0
  · obtain ⟨k, rfl⟩ : ∃ m, k = m + 2 := ⟨k - 2, by omega⟩
    simp only [spec_ReadUvarint.l0, spec_ReadUvarint.j1]
    rw [if_pos (by omega), if_pos h0, if_pos (by simp), if_neg (by omega)]
  · obtain ⟨O, rfl⟩ := Int.eq_ofNat_of_zero_le (show 0 ≤ o by omega)
    by_cases h1 : (O : Int) < (l.length : Int)
    · rw [if_pos ⟨by omega, h1⟩, Int.toNat_natCast]
      exact spec_ReadUvarint_l0 l hb hl O 6 k 0 0 1 (by omega) (by omega) Wt.zero (by omega) (by omega)
    · rw [if_neg (by omega)]
      obtain ⟨k, rfl⟩ : ∃ m, k = m + 2 := ⟨k - 2, by omega⟩
      simp only [spec_ReadUvarint.l0, spec_ReadUvarint.j1]
      rw [if_pos (by omega), if_neg h0, if_pos (by rw [w64 (by omega) (by omega)]; simp; omega)]
theorem spec_l1In_eq (a b c : Int) : spec_l1In.f a b c = some (decide (b ≤ a ∧ a ≤ c)) := by
  unfold spec_l1In.f
  by_cases h : b ≤ a
  · rw [if_pos h]; simp [h]
  · rw [if_neg (by omega)]; simp [h]
theorem spec_DecodeInts_l0 (l : List Int) (hb : ∀ x ∈ l, 0 ≤ x ∧ x ≤ 255) (hl : l.length ≤ 1000000000) (N : Nat) (hN : N ≤ 100) : ∀ (d k i : Nat) (o : Int) (acc : List Int), d + i = N → d + 200 < k → acc.length = i →
    spec_DecodeInts.l0 k l o (N : Int) acc (i : Int) = some (DI l d o acc) := by
  intro d
  induction d with
  | zero =>
    intro k i o acc hd hk ha
    obtain ⟨k, rfl⟩ : ∃ m, k = m + 1 := ⟨k - 1, by omega⟩
    simp only [spec_DecodeInts.l0, DI]
    rw [if_neg (by omega)]
  | succ d ih =>
    intro k i o acc hd hk ha
    obtain ⟨k, rfl⟩ : ∃ m, k = m + 1 := ⟨k - 1, by omega⟩
    simp only [spec_DecodeInts.l0, DI]
    rw [if_pos (by omega), spec_ReadUvarint_eq (by omega) l hb (by omega)]; simp only [Option.bind_some]
    by_cases h : (RU l o).2.2 = true
    · rw [if_pos h, if_pos h, if_pos (by omega), nxt (by omega)]
      exact ih k (i + 1) _ _ (by omega) (by omega) (by simp; omega)
    · rw [if_neg h, if_neg h]
theorem spec_DecodeInts_eq {k : Nat} (hk : 1000 ≤ k) (l : List Int) (hb : ∀ x ∈ l, 0 ≤ x ∧ x ≤ 255) (hl : l.length ≤ 1000000000) (o n : Int) : spec_DecodeInts.f k l o n = some (DD l o n) := by
  unfold spec_DecodeInts.f DD
  obtain ⟨k, rfl⟩ : ∃ m, k = m + 1 := ⟨k - 1, by omega⟩
  simp only [spec_DecodeInts.j0, spec_l1In_eq, Option.bind_some]
  by_cases h0 : 0 ≤ n ∧ n ≤ 100
  · rw [if_pos (by simpa using h0)]
    by_cases h1 : 0 ≤ o ∧ o ≤ (l.length : Int)
    · rw [if_neg (by simpa using h1), if_pos ⟨h0, h1⟩]
      obtain ⟨N, rfl⟩ := Int.eq_ofNat_of_zero_le (show 0 ≤ n by omega)
      exact spec_DecodeInts_l0 l hb hl N (by omega) N k 0 o [] (by omega) (by omega) rfl
    · rw [if_pos (by rw [decide_eq_false h1]; rfl), if_neg (fun h => h1 h.2)]
  · rw [if_neg (by simpa using h0), if_pos (by simp), if_neg (fun h => h0 h.1)]
theorem impl_ReadUvarint_l0 (l : List Int) (hb : ∀ x ∈ l, 0 ≤ x ∧ x ≤ 255) (hl : l.length ≤ 1000000000000) (o : Nat) : ∀ (f k i : Nat) (n w : Int), f + i = 6 → f < k → Wt i w → 0 ≤ n → n < w → o ≤ 1000000000000 →
    impl_ReadUvarint.l0 k l (o : Int) n w (i : Int) = some (out (o : Int) (RV f (l.drop (o + i)) n w i)) := by
  intro f
  induction f with
  | zero =>
    intro k i n w hf hk hw h0 h1 ho
    obtain ⟨k, rfl⟩ : ∃ m, k = m + 1 := ⟨k - 1, by omega⟩
    simp only [impl_ReadUvarint.l0, RV]
    rw [if_neg (by omega)]; rfl
  | succ f ih =>
    intro k i n w hf hk hw h0 h1 ho
    obtain ⟨k, rfl⟩ : ∃ m, k = m + 1 := ⟨k - 1, by omega⟩
    have e : wrap64 ((o : Int) + (i : Int)) = ((o + i : Nat) : Int) := by rw [w64 (by omega) (by omega)]; omega
    simp only [impl_ReadUvarint.l0]
    rw [if_pos (by omega), e]
    have q1 : f + (i + 1) = 6 := by omega
    have q2 : f < k := by omega
    have q3 : i < 6 := by omega
    have q4 : (i : Int) > 0 → 0 < i := fun h => by omega
    have q5 : ¬ (i : Int) > 0 → i = 0 := fun h => by omega
    have q6 : i ≤ 9223372036854775806 := by omega
    by_cases h : o + i < l.length
    · have hv := hb _ (List.getElem_mem h)
      rw [if_neg (by omega), if_pos (by omega), if_pos (by omega), rd_at h, List.drop_eq_getElem_cons h]
      generalize l[o + i] = c at hv
      have ec : wrap64 c = c := w64 (by omega) (by omega)
      have en : wrap64 (((o + i : Nat) : Int) + 1) = (o : Int) + ((i + 1 : Nat) : Int) := by rw [w64 (by omega) (by omega)]; omega
      rw [ec, en]
      simp only [RV]
      by_cases hc : c < 128
      · have hg := group_bound hw h0 h1 hv.1 (show c ≤ 127 by omega)
        have et : Int.tmod c 128 = c := by rw [Int.tmod_eq_emod_of_nonneg hv.1]; omega
        have ew : wrap64 (n + wrap64 (c * w)) = n + c * w := by
          generalize c * w = p at hg
          rw [w64 (n := p) (by omega) (by omega), w64 (by omega) (by omega)]
        rw [if_pos hc, if_pos hc, et, ew]
        generalize n + c * w = z
        by_cases hi : (i : Int) > 0
        · rw [if_pos hi]
          by_cases h2 : c = 0
          · rw [if_pos h2, if_pos (show (0 < i ∧ c = 0) ∨ z > 1000000000000 from Or.inl ⟨q4 hi, h2⟩)]; rfl
          · rw [if_neg h2]
            by_cases h3 : z > 1000000000000
            · rw [if_pos h3, if_pos (show (0 < i ∧ c = 0) ∨ z > 1000000000000 from Or.inr h3)]; rfl
            · rw [if_neg h3, if_neg (fun h4 => h4.elim (fun h5 => h2 h5.2) h3)]; rfl
        · rw [if_neg hi]
          by_cases h3 : z > 1000000000000
          · rw [if_pos h3, if_pos (show (0 < i ∧ c = 0) ∨ z > 1000000000000 from Or.inr h3)]; rfl
          · rw [if_neg h3, if_neg (fun h4 => h4.elim (fun h5 => absurd (q5 hi) (Nat.pos_iff_ne_zero.1 h5.1)) h3)]; rfl
      · have hg := group_bound hw h0 h1 (show 0 ≤ c - 128 by omega) (show c - 128 ≤ 127 by omega)
        have et : Int.tmod c 128 = c - 128 := by rw [Int.tmod_eq_emod_of_nonneg hv.1]; omega
        have ewb : wrap64 (w * 128) = w * 128 := by
          have hwb := hw.bound
          clear hg
          exact w64 (by omega) (by omega)
        have ew : wrap64 (n + wrap64 ((c - 128) * w)) = n + (c - 128) * w := by
          generalize (c - 128) * w = p at hg
          rw [w64 (n := p) (by omega) (by omega), w64 (by omega) (by omega)]
        rw [if_neg hc, if_neg hc, et, ew, ewb, nxt q6]
        exact ih k (i + 1) _ _ q1 q2 (hw.next q3) (Int.add_nonneg h0 hg.1) hg.2.2.1 ho
    · rw [if_pos (by omega), List.drop_eq_nil_of_le (by omega)]; rfl
theorem impl_ReadUvarint_eq {k : Nat} (hk : 100 ≤ k) (l : List Int) (hb : ∀ x ∈ l, 0 ≤ x ∧ x ≤ 255) (hl : l.length ≤ 1000000000000) (o : Int) : impl_ReadUvarint.f k l o = some (RU l o) := by
  unfold impl_ReadUvarint.f RU
  obtain ⟨k, rfl⟩ : ∃ m, k = m + 1 := ⟨k - 1, by omega⟩
  simp only [impl_ReadUvarint.j0]
  by_cases h0 : o < 0
  · rw [if_pos h0, if_pos (by simp), if_neg (by omega)]
  · rw [if_neg h0]
    obtain ⟨O, rfl⟩ := Int.eq_ofNat_of_zero_le (show 0 ≤ o by omega)
    by_cases h1 : (O : Int) < (l.length : Int)
    · rw [if_neg (by simp; omega), if_pos ⟨by omega, h1⟩, Int.toNat_natCast]
      exact impl_ReadUvarint_l0 l hb hl O 6 k 0 0 1 (by omega) (by omega) Wt.zero (by omega) (by omega) (by omega)
    · rw [if_pos (by simp; omega), if_neg (by omega)]
theorem impl_DecodeInts_l0 (l : List Int) (hb : ∀ x ∈ l, 0 ≤ x ∧ x ≤ 255) (hl : l.length ≤ 1000000000) (N : Nat) (hN : N ≤ 100) : ∀ (d k i : Nat) (o : Int) (acc : List Int), d + i = N → d + 200 < k → acc.length = i →
    impl_DecodeInts.l0 k l o (N : Int) acc (i : Int) = some (DI l d o acc) := by
  intro d
  induction d with
  | zero =>
    intro k i o acc hd hk ha
    obtain ⟨k, rfl⟩ : ∃ m, k = m + 1 := ⟨k - 1, by omega⟩
    simp only [impl_DecodeInts.l0, DI]
    rw [if_neg (by omega)]
  | succ d ih =>
    intro k i o acc hd hk ha
    obtain ⟨k, rfl⟩ : ∃ m, k = m + 1 := ⟨k - 1, by omega⟩
    simp only [impl_DecodeInts.l0, DI]
    rw [if_pos (by omega), impl_ReadUvarint_eq (by omega) l hb (by omega)]; simp only [Option.bind_some]
    by_cases h : (RU l o).2.2 = true
    · rw [if_pos h, if_pos h, if_pos (by omega), nxt (by omega)]
      exact ih k (i + 1) _ _ (by omega) (by omega) (by simp; omega)
    · rw [if_neg h, if_neg h]
theorem impl_DecodeInts_eq {k : Nat} (hk : 1000 ≤ k) (l : List Int) (hb : ∀ x ∈ l, 0 ≤ x ∧ x ≤ 255) (hl : l.length ≤ 1000000000) (o n : Int) : impl_DecodeInts.f k l o n = some (DD l o n) := by
  unfold impl_DecodeInts.f DD
  obtain ⟨k, rfl⟩ : ∃ m, k = m + 1 := ⟨k - 1, by omega⟩
  simp only [impl_DecodeInts.j0]
  by_cases h0 : n < 0
  · rw [if_pos h0, if_pos (by simp), if_neg (by omega)]
  rw [if_neg h0]
  by_cases h1 : n > 100
  · rw [if_pos h1, if_pos (by simp), if_neg (by omega)]
  rw [if_neg h1]
  by_cases h2 : o < 0
  · rw [if_pos h2, if_pos (by simp), if_neg (by omega)]
  rw [if_neg h2]
  by_cases h3 : o > (l.length : Int)
  · rw [if_pos (by simp; omega), if_neg (by omega)]
  rw [if_neg (by simp; omega), if_pos (by omega)]
  obtain ⟨N, rfl⟩ := Int.eq_ofNat_of_zero_le (show 0 ≤ n by omega)
  exact impl_DecodeInts_l0 l hb hl N (by omega) N k 0 o [] (by omega) (by omega) rfl
theorem laws_heldIntS_l0 (s : Int) (s0 : 0 ≤ s) (s1 : s ≤ 1000000000000) (x : List Int) (hl : x.length ≤ 1000000000000) (hp : ∀ p, p < x.length → x[p]? = some (s + ((p : Nat) : Int))) : ∀ (j k i : Nat), x.length - i ≤ j → j < k → i ≤ x.length →
    laws_heldIntS.l0 k x (s + (i : Int)) (i : Int) = some (s + (x.length : Int)) := by
  intro j
  induction j with
  | zero =>
    intro k i hi hk hix
    obtain ⟨k, rfl⟩ : ∃ m, k = m + 1 := ⟨k - 1, by omega⟩
    simp only [laws_heldIntS.l0]
    rw [if_neg (by omega), show (i : Int) = (x.length : Int) by omega]
  | succ j ih =>
    intro k i hi hk hix
    obtain ⟨k, rfl⟩ : ∃ m, k = m + 1 := ⟨k - 1, by omega⟩
    simp only [laws_heldIntS.l0]
    by_cases h : i < x.length
    · have e1 : wrap64 (s + (i : Int) + 1) = s + ((i + 1 : Nat) : Int) := by rw [w64 (by omega) (by omega)]; omega
      have e2 : rd x (i : Int) = s + ((i : Nat) : Int) := by rw [rd_nat, hp i h]; rfl
      rw [if_pos (by omega), if_pos (by omega), if_pos e2, e1, nxt (by omega)]
      exact ih k (i + 1) (by omega) (by omega) (by omega)
    · rw [if_neg (by omega), show (i : Int) = (x.length : Int) by omega]
theorem laws_heldIntS_ok {k : Nat} (s : Int) (s0 : 0 ≤ s) (s1 : s ≤ 1000000000000) (x : List Int) (n : Nat) (hn : x.length = n) (hl : n ≤ 1000000000000) (hk : n < k) (hp : ∀ p, p < n → x[p]? = some (s + ((p : Nat) : Int))) : laws_heldIntS.f k x s = some (s + (n : Int)) := by
  subst hn
  unfold laws_heldIntS.f
  have h := laws_heldIntS_l0 s s0 s1 x hl hp x.length k 0 (by omega) hk (by omega)
  rw [show s + ((0 : Nat) : Int) = s by omega] at h
  exact h
theorem proved : laws_FnExactDecodeInts.Pure := by
  intro l0 a1 a2 _ _ hb _ _
  obtain ⟨K, hK⟩ : ∃ K : Nat, 1000000000 ≤ K := ⟨_, Nat.le_refl _⟩
  refine ⟨K, ?_⟩
  unfold laws_FnExactDecodeInts.f
  rcases Nat.lt_or_ge 1048576 l0.length with h_l0 | h_l0
  · rw [if_pos (by omega)]
  rw [if_neg (by omega)]
  have hby : ∀ x ∈ l0, 0 ≤ x ∧ x ≤ 255 := fun x hx => wfb (hb x hx)
  have hto : ∀ k, 100000000 ≤ k → laws_toByteS.f k l0 = some l0 := fun k hk => laws_toByteS_eq l0 h_l0 (by omega)
  have hsa : ∀ k, 100000000 ≤ k → laws_eqByteS.f k l0 l0 = some true := fun k hk => laws_eqByteS_self l0 h_l0 (by omega)
  have hs : spec_DecodeInts.f K l0 a1 a2 = some (DD l0 a1 a2) := spec_DecodeInts_eq (by omega) l0 hby (by omega) a1 a2
  have hi : ∀ k, 100000000 ≤ k → impl_DecodeInts.f k l0 a1 a2 = some (DD l0 a1 a2) := fun k hk => impl_DecodeInts_eq (by omega) l0 hby (by omega) a1 a2
  have hlen : (DD l0 a1 a2).1.length ≤ 10000000 := by
    unfold DD
    split
    · have := DI_list l0 a2.toNat a1 []
      simp only [List.length_nil] at this
      omega
    · simp
  generalize DD l0 a1 a2 = q at *
  obtain ⟨r, n, b⟩ := q
  simp only at hlen
  have hq : ∀ k, 100000000 ≤ k → laws_eqIntS.f k r r = some true := fun k hk => by rw [laws_eqIntS_eq r r (by omega) (by omega)]; simp
  have hm : ∀ k, 100000000 ≤ k → ∃ r', laws_markIntS.f k r 1 = some (1 + (r.length : Int), r') ∧ ∀ k', 100000000 ≤ k' → laws_heldIntS.f k' r' 1 = some (1 + (r.length : Int)) := by
    intro k hk
    obtain ⟨r', e1, e2, e3⟩ := laws_markIntS_ok (k := k) 1 (by omega) (by omega) r (by omega) (by omega)
    exact ⟨r', e1, fun k' hk' => laws_heldIntS_ok 1 (by omega) (by omega) r' r.length e2 (by omega) (by omega) e3⟩
  have hnr : ¬ (1 + (r.length : Int) < 0) := by omega
  have hj2 : ∀ k, 200000000 ≤ k → ∀ r', (∀ k', 100000000 ≤ k' → laws_heldIntS.f k' r' 1 = some (1 + (r.length : Int))) → laws_FnExactDecodeInts.j2 k r' (1 + (r.length : Int)) false = some true := by
    intro k hk r' hr
    obtain ⟨k, rfl⟩ : ∃ j, k = j + 1 := ⟨k - 1, by omega⟩
    simp only [laws_FnExactDecodeInts.j2]
    rw [if_neg (by simp)]
    simp only [hr k (by omega), Option.bind_some]
    simp only [↓reduceIte, hnr]
  have hj1 : ∀ k, 300000000 ≤ k → laws_FnExactDecodeInts.j1 k l0 a1 a2 r n b r false = some true := by
    intro k hk
    obtain ⟨k, rfl⟩ : ∃ j, k = j + 1 := ⟨k - 1, by omega⟩
    obtain ⟨r', e1, e2⟩ := hm k (by omega)
    simp only [laws_FnExactDecodeInts.j1]
    rw [if_neg (by simp)]
    simp only [e1, e2 k (by omega), hto k (by omega), hi k (by omega), hq k (by omega), Option.bind_some]
    simp only [↓reduceIte, hnr, bne_self_eq_false, hj2 k (by omega) r' e2]
  have hn1 : ¬ (1 + (l0.length : Int) < 0) := by omega
  have hj : laws_FnExactDecodeInts.j0 K l0 a1 a2 r n b l0 r n b false = some true := by
    obtain ⟨k, rfl⟩ : ∃ j, K = j + 1 := ⟨K - 1, by omega⟩
    obtain ⟨x, ex, _⟩ := laws_markByteS_ok (k := k) 1 (by omega) (by omega) l0 (by omega) (by omega)
    simp only [laws_FnExactDecodeInts.j0]
    rw [if_neg (by simp)]
    simp only [hto k (by omega), hsa k (by omega), ex, hq k (by omega), Option.bind_some]
    simp only [↓reduceIte, hn1, bne_self_eq_false, hj1 k (by omega)]
  simp only [hto K (by omega), hs, hi K (by omega), hq K (by omega), Option.bind_some]
  simp only [↓reduceIte, bne_self_eq_false, hj]
end KFnExactDecodeInts
theorem FnExactDecodeInts : laws_FnExactDecodeInts.Pure := KFnExactDecodeInts.proved
end Go.Proofs.Ytipdmghnabchaaa.Pure
