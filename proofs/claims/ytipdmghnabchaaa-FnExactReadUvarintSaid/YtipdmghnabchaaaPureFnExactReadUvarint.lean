/- the program's ReadUvarint answers as the reference's and leaves its arguments alone. -/
import Derived.Test.YtipdmghnabchaaaPFnExactReadUvarintx2
import Derived.Test.YtipdmghnabchaaaNum4
set_option linter.unusedVariables false
set_option linter.unusedSimpArgs false
namespace Go.Proofs.Ytipdmghnabchaaa.Pure
open Go.RowKit Go.Proofs.Ytipdmghnabchaaa.PFnExactReadUvarint Go.Proofs.YtipdmghnabchaaaW.PrintWords Go.Proofs.YtipdmghnabchaaaW.PrintLast Go.Proofs.Ytipdmghnabchaaa.Num
namespace KFnExactReadUvarint
theorem spec_ReadUvarint_l0 (l : List Int) (hb : ∀ x ∈ l, 0 ≤ x ∧ x ≤ 255) (hl : l.length ≤ 1000000000000) (o : Nat) : ∀ (f k i : Nat) (n w : Int), f + i = 6 → 2 * f < k → Wt i w → 0 ≤ n → n < w →
    spec_ReadUvarint.l0 k l (o : Int) n (i : Int) = some (out (o : Int) (RV f (l.drop (o + i)) n w i)) := by
  intro f
  induction f with
  | zero =>
    intro k i n w hf hk hw h0 h1
    obtain ⟨k, rfl⟩ : ∃ m, k = m + 1 := ⟨k - 1, by omega⟩
    simp only [spec_ReadUvarint.l0, RV]
    rw [if_neg (by omega)]; rfl
  | succ f ih =>
    intro k i n w hf hk hw h0 h1
    obtain ⟨k, rfl⟩ : ∃ m, k = m + 2 := ⟨k - 2, by omega⟩
    have e0 : wrap64 ((l.length : Int) - (i : Int)) = (l.length : Int) - (i : Int) := w64 (by omega) (by omega)
    simp only [spec_ReadUvarint.l0]
    rw [if_pos (by omega), if_neg (by omega), e0]
    simp only [spec_ReadUvarint.j1]
    have q1 : f + (i + 1) = 6 := by omega
    have q2 : 2 * f < k := by omega
    have q3 : i < 6 := by omega
    have q4 : (i : Int) > 0 → 0 < i := fun h => by omega
    have q5 : ¬ (i : Int) > 0 → i = 0 := fun h => by omega
    have q6 : i ≤ 9223372036854775806 := by omega
    by_cases h : o + i < l.length
    · have e : wrap64 ((o : Int) + (i : Int)) = ((o + i : Nat) : Int) := by rw [w64 (by omega) (by omega)]; omega
      have hv := hb _ (List.getElem_mem h)
      have hi6 : i < 6 := by omega
      rw [if_neg (by simp; omega), e, if_pos (by omega), if_pos (by omega), if_pos (by rw [w64 (by omega) (by omega)]; omega), rd_at h, List.drop_eq_getElem_cons h]
      generalize l[o + i] = c at hv
      have ec : wrap64 c = c := w64 (by omega) (by omega)
      have en : wrap64 (((o + i : Nat) : Int) + 1) = (o : Int) + ((i + 1 : Nat) : Int) := by rw [w64 (by omega) (by omega)]; omega
      have ea : Go.bits .and .i64 c 127 = c % 128 := and127 hv.1 (by omega)
      rw [ec, en, ea, shl_at hw hi6 (by omega) (by omega), or_at hw hi6 h0 h1 (by omega) (by omega)]
      simp only [RV]
      by_cases hc : c < 128
      · have et : c % 128 = c := by omega
        rw [if_pos hc, if_pos hc, et]
        generalize n + c * w = z
        by_cases h2 : c = 0
        · rw [if_pos h2]
          by_cases hi : (i : Int) > 0
          · rw [if_pos hi, if_pos (show (0 < i ∧ c = 0) ∨ z > 1000000000000 from Or.inl ⟨q4 hi, h2⟩)]; rfl
          · rw [if_neg hi]
            by_cases h3 : z > 1000000000000
            · rw [if_pos h3, if_pos (show (0 < i ∧ c = 0) ∨ z > 1000000000000 from Or.inr h3)]; rfl
            · rw [if_neg h3, if_neg (fun h4 => h4.elim (fun h5 => absurd (q5 hi) (Nat.pos_iff_ne_zero.1 h5.1)) h3)]; rfl
        · rw [if_neg h2]
          by_cases h3 : z > 1000000000000
          · rw [if_pos h3, if_pos (show (0 < i ∧ c = 0) ∨ z > 1000000000000 from Or.inr h3)]; rfl
          · rw [if_neg h3, if_neg (fun h4 => h4.elim (fun h5 => h2 h5.2) h3)]; rfl
      · have hg := group_bound hw h0 h1 (show 0 ≤ c - 128 by omega) (show c - 128 ≤ 127 by omega)
        have et : c % 128 = c - 128 := by omega
        rw [if_neg hc, if_neg hc, et, nxt q6]
        exact ih k (i + 1) _ _ q1 q2 (hw.next q3) (Int.add_nonneg h0 hg.1) hg.2.2.1
    · rw [if_pos (by simp; omega), List.drop_eq_nil_of_le (by omega)]; rfl
theorem spec_ReadUvarint_eq {k : Nat} (hk : 100 ≤ k) (l : List Int) (hb : ∀ x ∈ l, 0 ≤ x ∧ x ≤ 255) (hl : l.length ≤ 1000000000000) (o : Int) : spec_ReadUvarint.f k l o = some (RU l o) := by
  unfold spec_ReadUvarint.f RU
  by_cases h0 : o < 0
  · obtain ⟨k, rfl⟩ : ∃ m, k = m + 2 := ⟨k - 2, by omega⟩
    simp only [spec_ReadUvarint.l0, spec_ReadUvarint.j1]
    rw [if_pos (by omega), if_pos h0, if_pos (by simp), if_neg (by omega)]
  · obtain ⟨O, rfl⟩ := Int.eq_ofNat_of_zero_le (show 0 ≤ o by omega)
    by_cases h1 : (O : Int) < (l.length : Int)
    · rw [if_pos ⟨by omega, h1⟩, Int.toNat_natCast]
      exact spec_ReadUvarint_l0 l hb hl O 6 k 0 0 1 (by omega) (by omega) Wt.zero (by omega) (by omega)
    · rw [if_neg (by omega)]
      obtain ⟨k, rfl⟩ : ∃ m, k = m + 2 := ⟨k - 2, by omega⟩
      simp only [spec_ReadUvarint.l0, spec_ReadUvarint.j1]
      rw [if_pos (by omega), if_neg h0, if_pos (by rw [w64 (by omega) (by omega)]; simp; omega)]
theorem laws_toByteS_l0 (l : List Int) (hl : l.length ≤ 4611686018427387904) : ∀ (j k i : Nat) (x : List Int), l.length - i ≤ j → j < k → x.length = l.length → (∀ p, p < i → x[p]? = l[p]?) → laws_toByteS.l0 k l x (i : Int) = some l := by
  intro j
  induction j with
  | zero =>
    intro k i x hi hk hx hp
    obtain ⟨k, rfl⟩ : ∃ m, k = m + 1 := ⟨k - 1, by omega⟩
    simp only [laws_toByteS.l0]
    rw [if_neg (by omega)]
    congr 1
    apply List.ext_getElem?
    intro p
    by_cases h : p < i
    · exact hp p h
    · rw [List.getElem?_eq_none (by omega), List.getElem?_eq_none (by omega)]
  | succ j ih =>
    intro k i x hi hk hx hp
    obtain ⟨k, rfl⟩ : ∃ m, k = m + 1 := ⟨k - 1, by omega⟩
    simp only [laws_toByteS.l0]
    by_cases h : i < l.length
    · rw [if_pos (by omega), if_pos (by omega), if_pos (by omega), nxt (by omega), rd_at h]
      refine ih k (i + 1) _ (by omega) (by omega) (by rw [List.length_set]; exact hx) (fun p hpi => ?_)
      rw [show ((i : Int)).toNat = i from rfl, List.getElem?_set]
      by_cases e : i = p
      · subst e
        rw [if_pos (by simp), if_pos (by omega), List.getElem?_eq_getElem h]
      · rw [if_neg e]
        exact hp p (by omega)
    · rw [if_neg (by omega)]
      congr 1
      apply List.ext_getElem?
      intro p
      by_cases h : p < i
      · exact hp p h
      · rw [List.getElem?_eq_none (by omega), List.getElem?_eq_none (by omega)]
theorem laws_toByteS_eq {k : Nat} (l : List Int) (hl : l.length ≤ 1048576) (hk : 1048576 < k) : laws_toByteS.f k l = some l := by
  unfold laws_toByteS.f
  rw [if_pos (by omega), if_pos (by omega)]
  exact laws_toByteS_l0 l (by omega) l.length k 0 _ (by omega) (by omega) (by simp) (fun p hp => by omega)
theorem impl_ReadUvarint_l0 (l : List Int) (hb : ∀ x ∈ l, 0 ≤ x ∧ x ≤ 255) (hl : l.length ≤ 1000000000000) (o : Nat) : ∀ (f k i : Nat) (n w : Int), f + i = 6 → f < k → Wt i w → 0 ≤ n → n < w → o ≤ 1000000000000 →
    impl_ReadUvarint.l0 k l (o : Int) n w (i : Int) = some (out (o : Int) (RV f (l.drop (o + i)) n w i)) := by
  intro f
  induction f with
  | zero =>
    intro k i n w hf hk hw h0 h1 ho
    obtain ⟨k, rfl⟩ : ∃ m, k = m + 1 := ⟨k - 1, by omega⟩
    simp only [impl_ReadUvarint.l0, RV]
    rw [if_neg (by omega)]; rfl
  | succ f ih =>
    intro k i n w hf hk hw h0 h1 ho
    obtain ⟨k, rfl⟩ : ∃ m, k = m + 1 := ⟨k - 1, by omega⟩
    have e : wrap64 ((o : Int) + (i : Int)) = ((o + i : Nat) : Int) := by rw [w64 (by omega) (by omega)]; omega
    simp only [impl_ReadUvarint.l0]
    rw [if_pos (by omega), e]
    have q1 : f + (i + 1) = 6 := by omega
    have q2 : f < k := by omega
    have q3 : i < 6 := by omega
    have q4 : (i : Int) > 0 → 0 < i := fun h => by omega
    have q5 : ¬ (i : Int) > 0 → i = 0 := fun h => by omega
    have q6 : i ≤ 9223372036854775806 := by omega
    by_cases h : o + i < l.length
    · have hv := hb _ (List.getElem_mem h)
      rw [if_neg (by omega), if_pos (by omega), if_pos (by omega), rd_at h, List.drop_eq_getElem_cons h]
      generalize l[o + i] = c at hv
      have ec : wrap64 c = c := w64 (by omega) (by omega)
      have en : wrap64 (((o + i : Nat) : Int) + 1) = (o : Int) + ((i + 1 : Nat) : Int) := by rw [w64 (by omega) (by omega)]; omega
      rw [ec, en]
      simp only [RV]
      by_cases hc : c < 128
      · have hg := group_bound hw h0 h1 hv.1 (show c ≤ 127 by omega)
        have et : Int.tmod c 128 = c := by rw [Int.tmod_eq_emod_of_nonneg hv.1]; omega
        have ew : wrap64 (n + wrap64 (c * w)) = n + c * w := by
          generalize c * w = p at hg
          rw [w64 (n := p) (by omega) (by omega), w64 (by omega) (by omega)]
        rw [if_pos hc, if_pos hc, et, ew]
        generalize n + c * w = z
        by_cases hi : (i : Int) > 0
        · rw [if_pos hi]
          by_cases h2 : c = 0
          · rw [if_pos h2, if_pos (show (0 < i ∧ c = 0) ∨ z > 1000000000000 from Or.inl ⟨q4 hi, h2⟩)]; rfl
          · rw [if_neg h2]
            by_cases h3 : z > 1000000000000
            · rw [if_pos h3, if_pos (show (0 < i ∧ c = 0) ∨ z > 1000000000000 from Or.inr h3)]; rfl
            · rw [if_neg h3, if_neg (fun h4 => h4.elim (fun h5 => h2 h5.2) h3)]; rfl
        · rw [if_neg hi]
          by_cases h3 : z > 1000000000000
          · rw [if_pos h3, if_pos (show (0 < i ∧ c = 0) ∨ z > 1000000000000 from Or.inr h3)]; rfl
          · rw [if_neg h3, if_neg (fun h4 => h4.elim (fun h5 => absurd (q5 hi) (Nat.pos_iff_ne_zero.1 h5.1)) h3)]; rfl
      · have hg := group_bound hw h0 h1 (show 0 ≤ c - 128 by omega) (show c - 128 ≤ 127 by omega)
        have et : Int.tmod c 128 = c - 128 := by rw [Int.tmod_eq_emod_of_nonneg hv.1]; omega
        have ewb : wrap64 (w * 128) = w * 128 := by
          have hwb := hw.bound
          clear hg
          exact w64 (by omega) (by omega)
        have ew : wrap64 (n + wrap64 ((c - 128) * w)) = n + (c - 128) * w := by
          generalize (c - 128) * w = p at hg
          rw [w64 (n := p) (by omega) (by omega), w64 (by omega) (by omega)]
        rw [if_neg hc, if_neg hc, et, ew, ewb, nxt q6]
        exact ih k (i + 1) _ _ q1 q2 (hw.next q3) (Int.add_nonneg h0 hg.1) hg.2.2.1 ho
    · rw [if_pos (by omega), List.drop_eq_nil_of_le (by omega)]; rfl
theorem impl_ReadUvarint_eq {k : Nat} (hk : 100 ≤ k) (l : List Int) (hb : ∀ x ∈ l, 0 ≤ x ∧ x ≤ 255) (hl : l.length ≤ 1000000000000) (o : Int) : impl_ReadUvarint.f k l o = some (RU l o) := by
  unfold impl_ReadUvarint.f RU
  obtain ⟨k, rfl⟩ : ∃ m, k = m + 1 := ⟨k - 1, by omega⟩
  simp only [impl_ReadUvarint.j0]
  by_cases h0 : o < 0
  · rw [if_pos h0, if_pos (by simp), if_neg (by omega)]
  · rw [if_neg h0]
    obtain ⟨O, rfl⟩ := Int.eq_ofNat_of_zero_le (show 0 ≤ o by omega)
    by_cases h1 : (O : Int) < (l.length : Int)
    · rw [if_neg (by simp; omega), if_pos ⟨by omega, h1⟩, Int.toNat_natCast]
      exact impl_ReadUvarint_l0 l hb hl O 6 k 0 0 1 (by omega) (by omega) Wt.zero (by omega) (by omega) (by omega)
    · rw [if_pos (by simp; omega), if_neg (by omega)]
theorem laws_eqByteS_l0 (a b : List Int) (hl : a.length = b.length) (hm : a.length ≤ 4611686018427387904) : ∀ (j k i : Nat), a.length - i ≤ j → j < k → laws_eqByteS.l0 k a b (i : Int) = some (decide (a.drop i = b.drop i)) := by
  intro j
  induction j with
  | zero =>
    intro k i hi hk
    obtain ⟨k, rfl⟩ : ∃ m, k = m + 1 := ⟨k - 1, by omega⟩
    simp only [laws_eqByteS.l0]
    rw [if_neg (by omega), List.drop_eq_nil_of_le (by omega), List.drop_eq_nil_of_le (by omega)]; simp
  | succ j ih =>
    intro k i hi hk
    obtain ⟨k, rfl⟩ : ∃ m, k = m + 1 := ⟨k - 1, by omega⟩
    simp only [laws_eqByteS.l0]
    by_cases h : i < a.length
    · have hb : i < b.length := by omega
      rw [if_pos (by omega), if_pos (by omega), if_pos (by omega), nxt (by omega), rd_at h, rd_at hb, ih k (i + 1) (by omega) (by omega), List.drop_eq_getElem_cons h, List.drop_eq_getElem_cons hb]
      by_cases e : a[i] = b[i]
      · rw [if_pos e]; congr 1; rw [decide_eq_decide]; exact ⟨fun h1 => by rw [e, h1], fun h1 => (List.cons.inj h1).2⟩
      · rw [if_neg e]; congr 1; symm; rw [decide_eq_false_iff_not]; exact fun h1 => e (List.cons.inj h1).1
    · rw [if_neg (by omega), List.drop_eq_nil_of_le (by omega), List.drop_eq_nil_of_le (by omega)]; simp
theorem laws_eqByteS_eq {k : Nat} (a b : List Int) (hm : a.length ≤ 4611686018427387904) (hk : a.length < k) : laws_eqByteS.f k a b = some (decide (a = b)) := by
  unfold laws_eqByteS.f
  by_cases h : a.length = b.length
  · rw [if_pos (by omega)]
    exact laws_eqByteS_l0 a b h hm a.length k 0 (by omega) hk
  · rw [if_neg (by omega)]
    have : a ≠ b := fun e => h (by rw [e])
    simp [this]
theorem laws_eqByteS_self {k : Nat} (a : List Int) (hm : a.length ≤ 1048576) (hk : 1048576 < k) : laws_eqByteS.f k a a = some true := by
  rw [laws_eqByteS_eq a a (by omega) (by omega)]; simp
theorem proved : laws_FnExactReadUvarint.Pure := by
  intro l0 a1 _ _ hb _
  obtain ⟨K, hK⟩ : ∃ K : Nat, 1000000000 ≤ K := ⟨_, Nat.le_refl _⟩
  refine ⟨K, ?_⟩
  unfold laws_FnExactReadUvarint.f
  rcases Nat.lt_or_ge 1048576 l0.length with h_l0 | h_l0
  · rw [if_pos (by omega)]
  rw [if_neg (by omega)]
  have hby : ∀ x ∈ l0, 0 ≤ x ∧ x ≤ 255 := fun x hx => wfb (hb x hx)
  have hj : laws_FnExactReadUvarint.j0 K l0 l0 false = some true := by
    obtain ⟨k, rfl⟩ : ∃ j, K = j + 1 := ⟨K - 1, by omega⟩
    simp only [laws_FnExactReadUvarint.j0]
    rw [if_neg (by simp)]
    simp only [laws_toByteS_eq l0 h_l0 (show 1048576 < k by omega), laws_eqByteS_self l0 h_l0 (show 1048576 < k by omega), Option.bind_some]
    simp
  simp only [laws_toByteS_eq l0 h_l0 (show 1048576 < K by omega), spec_ReadUvarint_eq (show 100 ≤ K by omega) l0 hby (by omega) a1, impl_ReadUvarint_eq (show 100 ≤ K by omega) l0 hby (by omega) a1, Option.bind_some]
  simp [hj]
end KFnExactReadUvarint
theorem FnExactReadUvarint : laws_FnExactReadUvarint.Pure := KFnExactReadUvarint.proved
end Go.Proofs.Ytipdmghnabchaaa.Pure
