/- an integer is decoded from its varint, and a decoded varint is the encoding of its integer, for every input. -/
import Derived.Test.YtipdmghnabchaaaPFnVarintsx4
import Derived.Test.YtipdmghnabchaaaNum4
set_option linter.unusedVariables false
set_option linter.unusedSimpArgs false
namespace Go.Proofs.Ytipdmghnabchaaa.Pure
open Go.RowKit Go.Proofs.Ytipdmghnabchaaa.PFnVarints Go.Proofs.YtipdmghnabchaaaW.PrintWords Go.Proofs.YtipdmghnabchaaaW.PrintLast Go.Proofs.Ytipdmghnabchaaa.Num
namespace KFnVarints
theorem spec_ReadUvarint_l0 (l : List Int) (hb : ∀ x ∈ l, 0 ≤ x ∧ x ≤ 255) (hl : l.length ≤ 1000000000000) (o : Nat) : ∀ (f k i : Nat) (n w : Int), f + i = 6 → 2 * f < k → Wt i w → 0 ≤ n → n < w →
    spec_ReadUvarint.l0 k l (o : Int) n (i : Int) = some (out (o : Int) (RV f (l.drop (o + i)) n w i)) := by
  intro f
  induction f with
  | zero =>
    intro k i n w hf hk hw h0 h1
    obtain ⟨k, rfl⟩ : ∃ m, k = m + 1 := ⟨k - 1, by omega⟩
    simp only [spec_ReadUvarint.l0, RV]
    rw [if_neg (by omega)]; rfl
  | succ f ih =>
    intro k i n w hf hk hw h0 h1
    obtain ⟨k, rfl⟩ : ∃ m, k = m + 2 := ⟨k - 2, by omega⟩
    have e0 : wrap64 ((l.length : Int) - (i : Int)) = (l.length : Int) - (i : Int) := w64 (by omega) (by omega)
    simp only [spec_ReadUvarint.l0]
    rw [if_pos (by omega), if_neg (by omega), e0]
    simp only [spec_ReadUvarint.j1]
    have q1 : f + (i + 1) = 6 := by omega
    have q2 : 2 * f < k := by omega
    have q3 : i < 6 := by omega
    have q4 : (i : Int) > 0 → 0 < i := fun h => by omega
    have q5 : ¬ (i : Int) > 0 → i = 0 := fun h => by omega
    have q6 : i ≤ 9223372036854775806 := by omega
    by_cases h : o + i < l.length
    · have e : wrap64 ((o : Int) + (i : Int)) = ((o + i : Nat) : Int) := by rw [w64 (by omega) (by omega)]; omega
      have hv := hb _ (List.getElem_mem h)
      have hi6 : i < 6 := by omega
      rw [if_neg (by simp; omega), e, if_pos (by omega), if_pos (by omega), if_pos (by rw [w64 (by omega) (by omega)]; omega), rd_at h, List.drop_eq_getElem_cons h]
      generalize l[o + i] = c at hv
      have ec : wrap64 c = c := w64 (by omega) (by omega)
      have en : wrap64 (((o + i : Nat) : Int) + 1) = (o : Int) + ((i + 1 : Nat) : Int) := by rw [w64 (by omega) (by omega)]; omega
      have ea : Go.bits .and .i64 c 127 = c % 128 := and127 hv.1 (by omega)
      rw [ec, en, ea, shl_at hw hi6 (by omega) (by omega), or_at hw hi6 h0 h1 (by omega) (by omega)]
      simp only [RV]
      by_cases hc : c < 128
      · have et : c % 128 = c := by omega
        rw [if_pos hc, if_pos hc, et]
        generalize n + c * w = z
        by_cases h2 : c = 0
        · rw [if_pos h2]
          by_cases hi : (i : Int) > 0
          · rw [if_pos hi, if_pos (show (0 < i ∧ c = 0) ∨ z > 1000000000000 from Or.inl ⟨q4 hi, h2⟩)]; rfl
          · rw [if_neg hi]
            by_cases h3 : z > 1000000000000
            · rw [if_pos h3, if_pos (show (0 < i ∧ c = 0) ∨ z > 1000000000000 from Or.inr h3)]; rfl
            · rw [if_neg h3, if_neg (fun h4 => h4.elim (fun h5 => absurd (q5 hi) (Nat.pos_iff_ne_zero.1 h5.1)) h3)]; rfl
        · rw [if_neg h2]
          by_cases h3 : z > 1000000000000
          · rw [if_pos h3, if_pos (show (0 < i ∧ c = 0) ∨ z > 1000000000000 from Or.inr h3)]; rfl
          · rw [if_neg h3, if_neg (fun h4 => h4.elim (fun h5 => h2 h5.2) h3)]; rfl
      · have hg := group_bound hw h0 h1 (show 0 ≤ c - 128 by omega) (show c - 128 ≤ 127 by omega)
        have et : c % 128 = c - 128 := by omega
        rw [if_neg hc, if_neg hc, et, nxt q6]
        exact ih k (i + 1) _ _ q1 q2 (hw.next q3) (Int.add_nonneg h0 hg.1) hg.2.2.1
    · rw [if_pos (by simp; omega), List.drop_eq_nil_of_le (by omega)]; rfl
theorem spec_ReadUvarint_eq {k : Nat} (hk : 100 ≤ k) (l : List Int) (hb : ∀ x ∈ l, 0 ≤ x ∧ x ≤ 255) (hl : l.length ≤ 1000000000000) (o : Int) : spec_ReadUvarint.f k l o = some (RU l o) := by
  unfold spec_ReadUvarint.f RU
  by_cases h0 : o < 0
  · obtain ⟨k, rfl⟩ : ∃ m, k = m + 2 := ⟨k - 2, by omega⟩
    simp only [spec_ReadUvarint.l0, spec_ReadUvarint.j1]
    rw [if_pos (by omega), if_pos h0, if_pos (by simp), if_neg (by omega)]
  · obtain ⟨O, rfl⟩ := Int.eq_ofNat_of_zero_le (show 0 ≤ o by omega)
    by_cases h1 : (O : Int) < (l.length : Int)
    · rw [if_pos ⟨by omega, h1⟩, Int.toNat_natCast]
      exact spec_ReadUvarint_l0 l hb hl O 6 k 0 0 1 (by omega) (by omega) Wt.zero (by omega) (by omega)
    · rw [if_neg (by omega)]
      obtain ⟨k, rfl⟩ : ∃ m, k = m + 2 := ⟨k - 2, by omega⟩
      simp only [spec_ReadUvarint.l0, spec_ReadUvarint.j1]
      rw [if_pos (by omega), if_neg h0, if_pos (by rw [w64 (by omega) (by omega)]; simp; omega)]
theorem impl_ReadUvarint_l0 (l : List Int) (hb : ∀ x ∈ l, 0 ≤ x ∧ x ≤ 255) (hl : l.length ≤ 1000000000000) (o : Nat) : ∀ (f k i : Nat) (n w : Int), f + i = 6 → f < k → Wt i w → 0 ≤ n → n < w → o ≤ 1000000000000 →
    impl_ReadUvarint.l0 k l (o : Int) n w (i : Int) = some (out (o : Int) (RV f (l.drop (o + i)) n w i)) := by
  intro f
  induction f with
  | zero =>
    intro k i n w hf hk hw h0 h1 ho
    obtain ⟨k, rfl⟩ : ∃ m, k = m + 1 := ⟨k - 1, by omega⟩
    simp only [impl_ReadUvarint.l0, RV]
    rw [if_neg (by omega)]; rfl
  | succ f ih =>
    intro k i n w hf hk hw h0 h1 ho
    obtain ⟨k, rfl⟩ : ∃ m, k = m + 1 := ⟨k - 1, by omega⟩
    have e : wrap64 ((o : Int) + (i : Int)) = ((o + i : Nat) : Int) := by rw [w64 (by omega) (by omega)]; omega
    simp only [impl_ReadUvarint.l0]
    rw [if_pos (by omega), e]
    have q1 : f + (i + 1) = 6 := by omega
    have q2 : f < k := by omega
    have q3 : i < 6 := by omega
    have q4 : (i : Int) > 0 → 0 < i := fun h => by omega
    have q5 : ¬ (i : Int) > 0 → i = 0 := fun h => by omega
    have q6 : i ≤ 9223372036854775806 := by omega
    by_cases h : o + i < l.length
    · have hv := hb _ (List.getElem_mem h)
      rw [if_neg (by omega), if_pos (by omega), if_pos (by omega), rd_at h, List.drop_eq_getElem_cons h]
      generalize l[o + i] = c at hv
      have ec : wrap64 c = c := w64 (by omega) (by omega)
      have en : wrap64 (((o + i : Nat) : Int) + 1) = (o : Int) + ((i + 1 : Nat) : Int) := by rw [w64 (by omega) (by omega)]; omega
      rw [ec, en]
      simp only [RV]
      by_cases hc : c < 128
      · have hg := group_bound hw h0 h1 hv.1 (show c ≤ 127 by omega)
        have et : Int.tmod c 128 = c := by rw [Int.tmod_eq_emod_of_nonneg hv.1]; omega
        have ew : wrap64 (n + wrap64 (c * w)) = n + c * w := by
          generalize c * w = p at hg
          rw [w64 (n := p) (by omega) (by omega), w64 (by omega) (by omega)]
        rw [if_pos hc, if_pos hc, et, ew]
        generalize n + c * w = z
        by_cases hi : (i : Int) > 0
        · rw [if_pos hi]
          by_cases h2 : c = 0
          · rw [if_pos h2, if_pos (show (0 < i ∧ c = 0) ∨ z > 1000000000000 from Or.inl ⟨q4 hi, h2⟩)]; rfl
          · rw [if_neg h2]
            by_cases h3 : z > 1000000000000
            · rw [if_pos h3, if_pos (show (0 < i ∧ c = 0) ∨ z > 1000000000000 from Or.inr h3)]; rfl
            · rw [if_neg h3, if_neg (fun h4 => h4.elim (fun h5 => h2 h5.2) h3)]; rfl
        · rw [if_neg hi]
          by_cases h3 : z > 1000000000000
          · rw [if_pos h3, if_pos (show (0 < i ∧ c = 0) ∨ z > 1000000000000 from Or.inr h3)]; rfl
          · rw [if_neg h3, if_neg (fun h4 => h4.elim (fun h5 => absurd (q5 hi) (Nat.pos_iff_ne_zero.1 h5.1)) h3)]; rfl
      · have hg := group_bound hw h0 h1 (show 0 ≤ c - 128 by omega) (show c - 128 ≤ 127 by omega)
        have et : Int.tmod c 128 = c - 128 := by rw [Int.tmod_eq_emod_of_nonneg hv.1]; omega
        have ewb : wrap64 (w * 128) = w * 128 := by
          have hwb := hw.bound
          clear hg
          exact w64 (by omega) (by omega)
        have ew : wrap64 (n + wrap64 ((c - 128) * w)) = n + (c - 128) * w := by
          generalize (c - 128) * w = p at hg
          rw [w64 (n := p) (by omega) (by omega), w64 (by omega) (by omega)]
        rw [if_neg hc, if_neg hc, et, ew, ewb, nxt q6]
        exact ih k (i + 1) _ _ q1 q2 (hw.next q3) (Int.add_nonneg h0 hg.1) hg.2.2.1 ho
    · rw [if_pos (by omega), List.drop_eq_nil_of_le (by omega)]; rfl
theorem impl_ReadUvarint_eq {k : Nat} (hk : 100 ≤ k) (l : List Int) (hb : ∀ x ∈ l, 0 ≤ x ∧ x ≤ 255) (hl : l.length ≤ 1000000000000) (o : Int) : impl_ReadUvarint.f k l o = some (RU l o) := by
  unfold impl_ReadUvarint.f RU
  obtain ⟨k, rfl⟩ : ∃ m, k = m + 1 := ⟨k - 1, by omega⟩
  simp only [impl_ReadUvarint.j0]
  by_cases h0 : o < 0
  · rw [if_pos h0, if_pos (by simp), if_neg (by omega)]
  · rw [if_neg h0]
    obtain ⟨O, rfl⟩ := Int.eq_ofNat_of_zero_le (show 0 ≤ o by omega)
    by_cases h1 : (O : Int) < (l.length : Int)
    · rw [if_neg (by simp; omega), if_pos ⟨by omega, h1⟩, Int.toNat_natCast]
      exact impl_ReadUvarint_l0 l hb hl O 6 k 0 0 1 (by omega) (by omega) Wt.zero (by omega) (by omega) (by omega)
    · rw [if_pos (by simp; omega), if_neg (by omega)]
theorem impl_copyBytes_eq (l : List Int) (hl : l.length ≤ 1000000000000) : impl_copyBytes.f l = some l := by
  unfold impl_copyBytes.f
  simp only [Option.bind_some, List.nil_append]
  rw [if_pos (by simp; omega)]
theorem impl_AppendUvarint_l0 : ∀ (f k : Nat) (n : Int) (x : List Int), f + 2 ≤ k → 0 ≤ n → n < 128 ^ (f + 1) → n ≤ 1000000000000 → x.length + f ≤ 100000000000000 → impl_AppendUvarint.l0 k n x = some (x ++ AV f n) := by
  intro f
  induction f with
  | zero =>
    intro k n x hk h0 h1 h2 hx
    obtain ⟨k, rfl⟩ : ∃ m, k = m + 1 := ⟨k - 1, by omega⟩
    have e : (128 : Int) ^ (0 + 1) = 128 := by decide
    simp only [impl_AppendUvarint.l0, AV]
    rw [if_neg (by omega), if_pos (by omega), show n % 256 = n by omega]
  | succ f ih =>
    intro k n x hk h0 h1 h2 hx
    obtain ⟨k, rfl⟩ : ∃ m, k = m + 1 := ⟨k - 1, by omega⟩
    simp only [impl_AppendUvarint.l0]
    by_cases h : 128 ≤ n
    · have h5 : n / 128 < 128 ^ (f + 1) := by
        rw [Int.pow_succ] at h1
        exact Int.ediv_lt_of_lt_mul (by omega) h1
      have eb : wrap64 (Int.tmod n 128 + 128) % 256 = n % 128 + 128 := by
        rw [Int.tmod_eq_emod_of_nonneg h0, w64 (by omega) (by omega)]; omega
      have ed : wrap64 (Int.tdiv n 128) = n / 128 := by
        rw [Int.tdiv_eq_ediv_of_nonneg h0, w64 (by omega) (by omega)]
      rw [if_pos (by omega), if_pos (by omega), eb, ed, ih k (n / 128) _ (by omega) (by omega) h5 (by omega) (by simp; omega)]
      simp only [AV]
      rw [if_pos h, List.append_assoc]; rfl
    · rw [if_neg (by omega), if_pos (by omega), AV_small _ (by omega), show n % 256 = n by omega]

theorem impl_AppendUvarint_eq {k : Nat} (hk : 100 ≤ k) (b : List Int) (n : Int) (hb : b.length ≤ 1000000000000) : impl_AppendUvarint.f k b n = some (AU b n) := by
  unfold impl_AppendUvarint.f AU
  rw [impl_copyBytes_eq b hb]; simp only [Option.bind_some]
  obtain ⟨k, rfl⟩ : ∃ m, k = m + 1 := ⟨k - 1, by omega⟩
  simp only [impl_AppendUvarint.j0]
  by_cases h : 0 ≤ n ∧ n ≤ 1000000000000
  · rw [if_neg (by omega), if_neg (by simp; omega), if_pos h]
    exact impl_AppendUvarint_l0 5 k n b (by omega) h.1 (by rw [pow_128_6]; omega) h.2 (by omega)
  · rw [if_neg h]
    by_cases h1 : n < 0
    · rw [if_pos h1, if_pos (by simp)]
    · rw [if_neg h1, if_pos (by simp; omega)]
theorem laws_big_eq (l : List Int) : laws_big.f l = some (decide ((l.length : Int) > 1048576)) := rfl
theorem laws_sameBytes_l0 (a b : List Int) (hl : a.length = b.length) (hm : a.length ≤ 4611686018427387904) : ∀ (j k i : Nat), a.length - i ≤ j → j < k → laws_sameBytes.l0 k a b (i : Int) = some (decide (a.drop i = b.drop i)) := by
  intro j
  induction j with
  | zero =>
    intro k i hi hk
    obtain ⟨k, rfl⟩ : ∃ m, k = m + 1 := ⟨k - 1, by omega⟩
    simp only [laws_sameBytes.l0]
    rw [if_neg (by omega), List.drop_eq_nil_of_le (by omega), List.drop_eq_nil_of_le (by omega)]; simp
  | succ j ih =>
    intro k i hi hk
    obtain ⟨k, rfl⟩ : ∃ m, k = m + 1 := ⟨k - 1, by omega⟩
    simp only [laws_sameBytes.l0]
    by_cases h : i < a.length
    · have hb : i < b.length := by omega
      rw [if_pos (by omega), if_pos (by omega), if_pos (by omega), nxt (by omega), rd_at h, rd_at hb, ih k (i + 1) (by omega) (by omega), List.drop_eq_getElem_cons h, List.drop_eq_getElem_cons hb]
      by_cases e : a[i] = b[i]
      · rw [if_pos e]; congr 1; rw [decide_eq_decide]; exact ⟨fun h1 => by rw [e, h1], fun h1 => (List.cons.inj h1).2⟩
      · rw [if_neg e]; congr 1; symm; rw [decide_eq_false_iff_not]; exact fun h1 => e (List.cons.inj h1).1
    · rw [if_neg (by omega), List.drop_eq_nil_of_le (by omega), List.drop_eq_nil_of_le (by omega)]; simp
theorem laws_sameBytes_eq {k : Nat} (a b : List Int) (hm : a.length ≤ 4611686018427387904) (hk : a.length < k) : laws_sameBytes.f k a b = some (decide (a = b)) := by
  unfold laws_sameBytes.f
  by_cases h : a.length = b.length
  · rw [if_pos (by omega)]
    exact laws_sameBytes_l0 a b h hm a.length k 0 (by omega) hk
  · rw [if_neg (by omega)]
    have : a ≠ b := fun e => h (by rw [e])
    simp [this]
theorem laws_sameBytes_self {k : Nat} (a : List Int) (hm : a.length ≤ 1048576) (hk : 1048576 < k) : laws_sameBytes.f k a a = some true := by
  rw [laws_sameBytes_eq a a (by omega) (by omega)]; simp
theorem spec_l1New_l0 (l : List Int) (hl : l.length ≤ 4611686018427387904) : ∀ (j k i : Nat) (h : Int), l.length - i ≤ j → j < k → ∃ h', spec_l1New.l0 k l h (i : Int) = some (l, 0, h') := by
  intro j
  induction j with
  | zero =>
    intro k i h hi hk
    obtain ⟨k, rfl⟩ : ∃ m, k = m + 1 := ⟨k - 1, by omega⟩
    simp only [spec_l1New.l0]
    rw [if_neg (by omega)]; exact ⟨_, rfl⟩
  | succ j ih =>
    intro k i h hi hk
    obtain ⟨k, rfl⟩ : ∃ m, k = m + 1 := ⟨k - 1, by omega⟩
    simp only [spec_l1New.l0]
    by_cases h1 : (i : Int) < (l.length : Int)
    · rw [if_pos h1]
      by_cases h2 : (i : Int) < 4000
      · rw [if_pos h2, if_pos (by omega), nxt (by omega)]
        exact ih k (i + 1) _ (by omega) (by omega)
      · rw [if_neg h2]; exact ⟨_, rfl⟩
    · rw [if_neg h1]; exact ⟨_, rfl⟩
theorem spec_l1New_ok {k : Nat} (l : List Int) (hl : l.length ≤ 4611686018427387904) (hk : l.length < k) : ∃ h, spec_l1New.f k l = some (l, 0, h) := by
  unfold spec_l1New.f
  exact spec_l1New_l0 l hl l.length k 0 _ (by omega) hk
theorem spec_l1Byte_ok (l : List Int) (i h : Int) (hi : 0 ≤ i) (hl : l.length ≤ 4611686018427387904) : ∃ v i' h', spec_l1Byte.f l i h = some (v, i', h') ∧ 0 ≤ i' ∧ 0 ≤ v ∧ v ≤ 255 := by
  unfold spec_l1Byte.f
  by_cases h1 : i < (l.length : Int)
  · rw [if_pos h1, if_pos hi, w64 (n := i + 1) (by omega) (by omega)]
    exact ⟨_, _, _, rfl, by omega, (and255_range _).1, (and255_range _).2⟩
  · rw [if_neg h1]
    exact ⟨_, _, _, rfl, hi, (and255_range _).1, (and255_range _).2⟩
theorem spec_l1Bytes_l0 (l : List Int) (hl : l.length ≤ 4611686018427387904) (n : Nat) (hn : n ≤ 1000000) : ∀ (j k q : Nat) (x : List Int) (i h : Int), n - q ≤ j → j < k → q ≤ n → x.length = q → 0 ≤ i → (∀ y ∈ x, 0 ≤ y ∧ y ≤ 255) →
    ∃ x' i' h', spec_l1Bytes.l0 k (n : Int) x (q : Int) l i h = some (x', i', h') ∧ x'.length = n ∧ 0 ≤ i' ∧ ∀ y ∈ x', 0 ≤ y ∧ y ≤ 255 := by
  intro j
  induction j with
  | zero =>
    intro k q x i h hj hk hq hx hi hb
    obtain ⟨k, rfl⟩ : ∃ m, k = m + 1 := ⟨k - 1, by omega⟩
    simp only [spec_l1Bytes.l0]
    rw [if_neg (by omega)]
    exact ⟨x, i, h, rfl, by omega, hi, hb⟩
  | succ j ih =>
    intro k q x i h hj hk hq hx hi hb
    obtain ⟨k, rfl⟩ : ∃ m, k = m + 1 := ⟨k - 1, by omega⟩
    simp only [spec_l1Bytes.l0]
    by_cases hlt : q < n
    · obtain ⟨v, i1, g1, e, h2, h3, h4⟩ := spec_l1Byte_ok l i h hi hl
      rw [if_pos (by omega), e]; simp only [Option.bind_some]
      rw [if_pos (by omega), nxt (by omega)]
      refine ih k (q + 1) _ i1 g1 (by omega) (by omega) (by omega) (by simp; omega) h2 (fun y hy => ?_)
      rcases List.mem_append.1 hy with hy | hy
      · exact hb y hy
      · rw [List.mem_singleton] at hy
        subst hy
        omega
    · rw [if_neg (by omega)]
      exact ⟨x, i, h, rfl, by omega, hi, hb⟩
theorem spec_l1Bytes_ok {k : Nat} (l : List Int) (i h n : Int) (hl : l.length ≤ 4611686018427387904) (h0 : 0 ≤ n) (hn : n ≤ 1000000) (hk : 1000000 < k) (hi : 0 ≤ i) :
    ∃ x' i' h', spec_l1Bytes.f k l i h n = some (x', i', h') ∧ (x'.length : Int) = n ∧ 0 ≤ i' ∧ ∀ y ∈ x', 0 ≤ y ∧ y ≤ 255 := by
  obtain ⟨N, rfl⟩ := Int.eq_ofNat_of_zero_le h0
  unfold spec_l1Bytes.f
  obtain ⟨x', i', h', e, e1, e2, e3⟩ := spec_l1Bytes_l0 l hl N (by omega) N k 0 [] i h (by omega) (by omega) (by omega) rfl hi (by simp)
  exact ⟨x', i', h', e, by omega, e2, e3⟩
theorem spec_l1Below_ok (l : List Int) (i h n : Int) (hi : 0 ≤ i) (hl : l.length ≤ 4611686018427387904) : ∃ v i' h', spec_l1Below.f l i h n = some (v, i', h') ∧ 0 ≤ i' ∧ 0 ≤ v ∧ v ≤ 16777215 ∧ (0 < n → v < n) ∧ (n ≤ 0 → v = 0) := by
  unfold spec_l1Below.f
  by_cases h0 : n ≤ 0
  · rw [if_pos h0]; exact ⟨_, _, _, rfl, hi, by omega, by omega, by omega, by omega⟩
  rw [if_neg h0]
  by_cases h1 : n ≤ 256
  · rw [if_pos h1]
    obtain ⟨v, i1, g1, e, h2, h3, h4⟩ := spec_l1Byte_ok l i h hi hl
    rw [e]; simp only [Option.bind_some]
    rw [if_neg (by omega), Int.tmod_eq_emod_of_nonneg h3]
    have r0 : 0 ≤ v % n := Int.emod_nonneg _ (by omega)
    have r1 : v % n < n := Int.emod_lt_of_pos _ (by omega)
    exact ⟨_, _, _, rfl, h2, r0, by omega, fun _ => r1, by omega⟩
  · rw [if_neg h1]
    obtain ⟨v1, i1, g1, e1, a1, b1, c1⟩ := spec_l1Byte_ok l i h hi hl
    rw [e1]; simp only [Option.bind_some]
    obtain ⟨v2, i2, g2, e2, a2, b2, c2⟩ := spec_l1Byte_ok l i1 g1 a1 hl
    rw [e2]; simp only [Option.bind_some]
    obtain ⟨v3, i3, g3, e3, a3, b3, c3⟩ := spec_l1Byte_ok l i2 g2 a2 hl
    rw [e3]; simp only [Option.bind_some]
    rw [if_neg (by omega), w64 (n := v1 * 65536) (by omega) (by omega), w64 (n := v2 * 256) (by omega) (by omega), w64 (n := v1 * 65536 + v2 * 256) (by omega) (by omega), w64 (by omega) (by omega), Int.tmod_eq_emod_of_nonneg (by omega)]
    have r0 : 0 ≤ (v1 * 65536 + v2 * 256 + v3) % n := Int.emod_nonneg _ (by omega)
    have r1 : (v1 * 65536 + v2 * 256 + v3) % n < n := Int.emod_lt_of_pos _ (by omega)
    have r2 : (v1 * 65536 + v2 * 256 + v3) % n ≤ v1 * 65536 + v2 * 256 + v3 := by
      by_cases hlt : v1 * 65536 + v2 * 256 + v3 < n
      · rw [Int.emod_eq_of_lt (by omega) hlt]; omega
      · omega
    exact ⟨_, _, _, rfl, a3, r0, by omega, fun _ => r1, by omega⟩
theorem spec_l1Once_ok (l : List Int) (i h n : Int) (hi : 0 ≤ i) (hl : l.length ≤ 4611686018427387904) : ∃ v i' h', spec_l1Once.f l i h n = some (v, i', h') ∧ 0 ≤ i' := by
  unfold spec_l1Once.f
  obtain ⟨v, i1, g1, e, h2, _⟩ := spec_l1Below_ok l i h n hi hl
  rw [e]; simp only [Option.bind_some]
  exact ⟨_, _, _, rfl, h2⟩
theorem spec_l1Int_ok (l : List Int) (i h : Int) (s : List Int) (hs : 0 < s.length) (hi : 0 ≤ i) (hl : l.length ≤ 4611686018427387904) : ∃ v i' h', spec_l1Int.f l i h s = some (v, i', h') ∧ 0 ≤ i' ∧ v ∈ s := by
  unfold spec_l1Int.f
  obtain ⟨v, i1, g1, e, h2, h3, h4, h5, h6⟩ := spec_l1Below_ok l i h (s.length : Int) hi hl
  rw [e]; simp only [Option.bind_some]
  have h7 := h5 (by omega)
  obtain ⟨j, rfl⟩ := Int.eq_ofNat_of_zero_le h3
  rw [if_pos h3, if_pos h7, rd_at (show j < s.length by omega)]
  exact ⟨_, _, _, rfl, h2, List.getElem_mem _⟩
theorem spec_l1Num_ok (l : List Int) (i h : Int) (hi : 0 ≤ i) (hl : l.length ≤ 4611686018427387904) : ∃ v i' h', spec_l1Num.f l i h = some (v, i', h') ∧ 0 ≤ i' := by
  unfold spec_l1Num.f
  obtain ⟨v0, i0, g0, e0, h0, _⟩ := spec_l1Below_ok l i h 4 hi hl
  rw [e0]; simp only [Option.bind_some]
  by_cases c0 : v0 = 0
  · obtain ⟨v1, i1, g1, e1, h1, _⟩ := spec_l1Below_ok l i0 g0 2000 h0 hl
    rw [if_pos c0, e1]; simp only [Option.bind_some]
    exact ⟨_, _, _, rfl, h1⟩
  rw [if_neg c0]
  by_cases c1 : v0 = 1
  · obtain ⟨v1, i1, g1, e1, h1, _⟩ := spec_l1Int_ok l i0 g0 [0, 1, 127, 128, 2147483646, 2147483647, 1000000000000] (by simp) h0 hl
    rw [if_pos c1, e1]; simp only [Option.bind_some]
    exact ⟨_, _, _, rfl, h1⟩
  rw [if_neg c1]
  by_cases c2 : v0 = 2
  · obtain ⟨v1, i1, g1, e1, h1, _⟩ := spec_l1Below_ok l i0 g0 1000000 h0 hl
    rw [if_pos c2, e1]; simp only [Option.bind_some]
    obtain ⟨v2, i2, g2, e2, h2, _⟩ := spec_l1Below_ok l i1 g1 1000000 h1 hl
    rw [e2]; simp only [Option.bind_some]
    exact ⟨_, _, _, rfl, h2⟩
  rw [if_neg c2]
  obtain ⟨v1, i1, g1, e1, h1, _⟩ := spec_l1Below_ok l i0 g0 20 h0 hl
  rw [e1]; simp only [Option.bind_some]
  exact ⟨_, _, _, rfl, h1⟩
theorem spec_l1Odd_ok (l : List Int) (i h : Int) (hi : 0 ≤ i) (hl : l.length ≤ 4611686018427387904) : ∃ v i' h', spec_l1Odd.f l i h = some (v, i', h') ∧ 0 ≤ i' := by
  unfold spec_l1Odd.f
  obtain ⟨v1, i1, g1, e1, h1, _⟩ := spec_l1Int_ok l i h [(-1), 0, 1, 2, 255, 256, 65535, 2147483647, 2147483648, 4294967295, 4294967296, (-2147483648), 9223372036854775807, (-9223372036854775808)] (by simp) hi hl
  rw [e1]; simp only [Option.bind_some]
  exact ⟨_, _, _, rfl, h1⟩
theorem spec_l1Raw_ok (l : List Int) (i h : Int) (hi : 0 ≤ i) (hl : l.length ≤ 4611686018427387904) : ∃ v i' h', spec_l1Raw.f l i h = some (v, i', h') ∧ 0 ≤ i' := by
  unfold spec_l1Raw.f
  obtain ⟨v, i0, g0, e0, h0⟩ := spec_l1Once_ok l i h 2 hi hl
  rw [e0]; simp only [Option.bind_some]
  cases v with
  | true =>
    obtain ⟨v1, i1, g1, e1, h1⟩ := spec_l1Odd_ok l i0 g0 h0 hl
    rw [if_pos (by simp), e1]; simp only [Option.bind_some]
    exact ⟨_, _, _, rfl, h1⟩
  | false =>
    obtain ⟨v1, i1, g1, e1, h1, _⟩ := spec_l1Int_ok l i0 g0 [(-1), 1000000000000, 1000000000001] (by simp) h0 hl
    rw [if_neg (by simp), e1]; simp only [Option.bind_some]
    exact ⟨_, _, _, rfl, h1⟩
theorem spec_l1One_ok (l : List Int) (i h : Int) (hi : 0 ≤ i) (hl : l.length ≤ 4611686018427387904) : ∃ v i' h', spec_l1One.f l i h = some (v, i', h') ∧ 0 ≤ i' := by
  unfold spec_l1One.f
  obtain ⟨v, i0, g0, e0, h0⟩ := spec_l1Once_ok l i h 6 hi hl
  rw [e0]; simp only [Option.bind_some]
  cases v with
  | true =>
    obtain ⟨v1, i1, g1, e1, h1⟩ := spec_l1Raw_ok l i0 g0 h0 hl
    rw [if_pos (by simp), e1]; simp only [Option.bind_some]
    exact ⟨_, _, _, rfl, h1⟩
  | false =>
    obtain ⟨v1, i1, g1, e1, h1⟩ := spec_l1Num_ok l i0 g0 h0 hl
    rw [if_neg (by simp), e1]; simp only [Option.bind_some]
    exact ⟨_, _, _, rfl, h1⟩
theorem spec_DrawAppendUvarint_ok {k : Nat} (l : List Int) (hl : l.length ≤ 1048576) (hk : 1048576 < k) : ∃ b n, spec_DrawAppendUvarint.f k l = some (b, n) ∧ b.length ≤ 2 ∧ ∀ y ∈ b, 0 ≤ y ∧ y ≤ 255 := by
  unfold spec_DrawAppendUvarint.f
  obtain ⟨h, e⟩ := spec_l1New_ok (k := k) l (by omega) (by omega)
  rw [e]; simp only [Option.bind_some]
  obtain ⟨v2, i2, g2, e2, h2, a2, b2, c2, _⟩ := spec_l1Below_ok l 0 h 3 (by omega) (by omega)
  have c2' := c2 (by omega)
  rw [e2]; simp only [Option.bind_some]
  obtain ⟨v3, i3, g3, e3, h3, a3, b3⟩ := spec_l1Bytes_ok (k := k) l i2 g2 v2 (by omega) a2 (by omega) (by omega) h2
  rw [e3]; simp only [Option.bind_some]
  obtain ⟨v4, i4, g4, e4, h4⟩ := spec_l1One_ok l i3 g3 a3 (by omega)
  rw [e4]; simp only [Option.bind_some]
  exact ⟨_, _, rfl, by omega, b3⟩
theorem spec_l1In_eq (a b c : Int) : spec_l1In.f a b c = some (decide (b ≤ a ∧ a ≤ c)) := by
  unfold spec_l1In.f
  by_cases h : b ≤ a
  · rw [if_pos h]; simp [h]
  · rw [if_neg (by omega)]; simp [h]
theorem spec_AppendUvarint_l0 : ∀ (f k : Nat) (n : Int) (x : List Int), f + 2 ≤ k → 0 ≤ n → n < 128 ^ (f + 1) → n ≤ 1000000000000 → x.length + f ≤ 100000000000000 → spec_AppendUvarint.l0 k n x = some (x ++ AV f n) := by
  intro f
  induction f with
  | zero =>
    intro k n x hk h0 h1 h2 hx
    obtain ⟨k, rfl⟩ : ∃ m, k = m + 1 := ⟨k - 1, by omega⟩
    have e : (128 : Int) ^ (0 + 1) = 128 := by decide
    simp only [spec_AppendUvarint.l0, AV]
    rw [if_neg (by omega), if_pos (by omega), show n % 256 = n by omega]
  | succ f ih =>
    intro k n x hk h0 h1 h2 hx
    obtain ⟨k, rfl⟩ : ∃ m, k = m + 1 := ⟨k - 1, by omega⟩
    simp only [spec_AppendUvarint.l0]
    by_cases h : 128 ≤ n
    · have h5 : n / 128 < 128 ^ (f + 1) := by
        rw [Int.pow_succ] at h1
        exact Int.ediv_lt_of_lt_mul (by omega) h1
      have ea : Go.bits .and .i64 n 127 = n % 128 := and127 h0 (by omega)
      have eb : Go.bits .or .i64 (Go.bits .and .i64 n 127) 128 % 256 = n % 128 + 128 := by
        rw [ea, or_join 7 (by omega) (by omega) (by omega) (by omega) (by omega) (by omega)]; omega
      rw [if_pos (by omega), if_pos (by omega), eb, ih k (n / 128) _ (by omega) (by omega) h5 (by omega) (by simp; omega)]
      simp only [AV]
      rw [if_pos h, List.append_assoc]; rfl
    · rw [if_neg (by omega), if_pos (by omega), AV_small _ (by omega), show n % 256 = n by omega]

theorem spec_AppendUvarint_eq {k : Nat} (hk : 100 ≤ k) (b : List Int) (n : Int) (hb : b.length ≤ 1000000000000) : spec_AppendUvarint.f k b n = some (AU b n) := by
  unfold spec_AppendUvarint.f AU
  simp only [Option.bind_some, List.nil_append, spec_l1In_eq]
  rw [if_pos (by simp; omega)]
  by_cases h : 0 ≤ n ∧ n ≤ 1000000000000
  · rw [if_pos (by simpa using h), if_pos h]
    exact spec_AppendUvarint_l0 5 k n b (by omega) h.1 (by rw [pow_128_6]; omega) h.2 (by omega)
  · rw [if_neg (by simpa using h), if_neg h]
theorem spec_DrawReadUvarint_l0 (l : List Int) (hl : l.length ≤ 4611686018427387904) : ∀ (q k : Nat) (x : List Int) (i h : Int), q ≤ 1000 → q < k → x.length ≤ 100000 - q → 0 ≤ i → (∀ y ∈ x, 0 ≤ y ∧ y ≤ 255) →
    ∃ y o, spec_DrawReadUvarint.l0 k x (q : Int) l i h = some (y, o) ∧ y.length ≤ 100000 ∧ ∀ z ∈ y, 0 ≤ z ∧ z ≤ 255 := by
  intro q
  induction q with
  | zero =>
    intro k x i h hq hk hx hi hb
    obtain ⟨k, rfl⟩ : ∃ m, k = m + 1 := ⟨k - 1, by omega⟩
    simp only [spec_DrawReadUvarint.l0]
    obtain ⟨v2, i2, g2, e2, h2, _⟩ := spec_l1Below_ok l i h 4 hi hl
    rw [if_neg (by omega), e2]; simp only [Option.bind_some]
    exact ⟨_, _, rfl, by omega, hb⟩
  | succ q ih =>
    intro k x i h hq hk hx hi hb
    obtain ⟨k, rfl⟩ : ∃ m, k = m + 1 := ⟨k - 1, by omega⟩
    simp only [spec_DrawReadUvarint.l0]
    obtain ⟨v2, i2, g2, e2, h2, _⟩ := spec_l1Int_ok l i h [128, 255, 0, 1, 127] (by simp) hi hl
    have e3 : wrap64 (((q + 1 : Nat) : Int) - 1) = (q : Int) := by rw [w64 (by omega) (by omega)]; omega
    rw [if_pos (by omega), e2]; simp only [Option.bind_some]
    rw [if_pos (by omega), e3]
    refine ih k _ i2 g2 (by omega) (by omega) (by simp; omega) h2 (fun y hy => ?_)
    rcases List.mem_append.1 hy with hy | hy
    · exact hb y hy
    · rw [List.mem_singleton] at hy
      subst hy
      omega
theorem spec_DrawReadUvarint_ok {k : Nat} (l : List Int) (hl : l.length ≤ 1048576) (hk : 1048576 < k) : ∃ y o, spec_DrawReadUvarint.f k l = some (y, o) ∧ y.length ≤ 100000 ∧ ∀ z ∈ y, 0 ≤ z ∧ z ≤ 255 := by
  unfold spec_DrawReadUvarint.f
  obtain ⟨h, e⟩ := spec_l1New_ok (k := k) l (by omega) (by omega)
  rw [e]; simp only [Option.bind_some]
  obtain ⟨v1, i1, g1, e1, h1⟩ := spec_l1Once_ok l 0 h 2 (by omega) (by omega)
  rw [e1]; simp only [Option.bind_some]
  cases v1 with
  | true =>
    obtain ⟨v3, i3, g3, e3, h3, a3, b3⟩ := spec_l1Bytes_ok (k := k) l i1 g1 1 (by omega) (by omega) (by omega) (by omega) h1
    rw [if_pos (by simp), e3]; simp only [Option.bind_some]
    obtain ⟨v4, i4, g4, e4, h4⟩ := spec_l1Num_ok l i3 g3 a3 (by omega)
    rw [e4]; simp only [Option.bind_some]
    rw [spec_AppendUvarint_eq (by omega) v3 v4 (by omega)]; simp only [Option.bind_some]
    have ha := AU_length v3 v4
    exact ⟨_, _, rfl, by omega, AU_range v3 v4 b3⟩
  | false =>
    obtain ⟨v2, i2, g2, e2, h2, a2, b2, c2, _⟩ := spec_l1Below_ok l i1 g1 8 h1 (by omega)
    have c2' := c2 (by omega)
    rw [if_neg (by simp), e2]; simp only [Option.bind_some]
    obtain ⟨Q, rfl⟩ := Int.eq_ofNat_of_zero_le a2
    exact spec_DrawReadUvarint_l0 l (by omega) Q k [] i2 g2 (by omega) (by omega) (by simp only [List.length_nil]; omega) h2 (by simp)
theorem second (k : Nat) (l0 : List Int) (hl : l0.length ≤ 1048576) (hk : 100000000 ≤ k) : laws_FnVarints.j1 k l0 = some true := by
  obtain ⟨k, rfl⟩ : ∃ j, k = j + 1 := ⟨k - 1, by omega⟩
  simp only [laws_FnVarints.j1]
  obtain ⟨y, o, e, hlen, hb⟩ := spec_DrawReadUvarint_ok (k := k) l0 hl (by omega)
  simp only [e, impl_ReadUvarint_eq (show 100 ≤ k by omega) y hb (by omega), spec_ReadUvarint_eq (show 100 ≤ k by omega) y hb (by omega), Option.bind_some]
  cases h : (RU y o).2.2 with
  | false =>
    rw [RU_false h]; simp
  | true =>
    have hi := RU_inv hb (o := o) (m := (RU y o).1) (a := (RU y o).2.1) (by rw [← h])
    generalize RU y o = q at *
    obtain ⟨m, a, c⟩ := q
    simp only at hi h
    obtain ⟨i1, i2, i3, i4, i5, i6⟩ := hi
    rw [if_pos (by simp), if_pos i1, if_pos i2, if_pos i3, impl_AppendUvarint_eq (by omega) [] m (by simp)]; simp only [Option.bind_some]
    have e1 : AU [] m = AV 5 m := by unfold AU; rw [if_pos ⟨i4, i5⟩, List.nil_append]
    have hv := AV_length 5 m
    rw [if_pos i1, if_pos (by omega), e1, i6, laws_sameBytes_eq _ _ (by omega) (by omega), decide_eq_true rfl]; rfl
theorem proved : laws_FnVarints.Pure := by
  intro l0 _ _ _
  obtain ⟨K, hK⟩ : ∃ K : Nat, 1000000000 ≤ K := ⟨_, Nat.le_refl _⟩
  refine ⟨K, ?_⟩
  unfold laws_FnVarints.f
  rw [laws_big_eq]; simp only [Option.bind_some]
  by_cases hl : (l0.length : Int) > 1048576
  · rw [if_pos (by simpa using hl)]
  rw [if_neg (by simpa using hl)]
  obtain ⟨b, n, e, hlen, hb⟩ := spec_DrawAppendUvarint_ok (k := K) l0 (by omega) (by omega)
  have ha := AU_length b n
  have hr := AU_range b n hb
  simp only [e, impl_AppendUvarint_eq (show 100 ≤ K by omega) b n (by omega), Option.bind_some]
  simp only [impl_ReadUvarint_eq (show 100 ≤ K by omega) (AU b n) hr (by omega), Option.bind_some]
  obtain ⟨k, rfl⟩ : ∃ j, K = j + 1 := ⟨K - 1, by omega⟩
  have h2 := second k l0 (by omega) (by omega)
  by_cases h0 : 0 ≤ n ∧ n ≤ 1000000000000
  · have e1 : AU b n = b ++ AV 5 n := by unfold AU; rw [if_pos h0]
    have e2 := RU_AU b [] h0.1 h0.2
    rw [List.append_nil, ← e1] at e2
    rw [e2, if_neg (by omega)]
    simp only [laws_FnVarints.j0]
    rw [if_neg (by simp; omega)]
    simp only [↓reduceIte, h2]
  · have e1 : AU b n = b := by unfold AU; rw [if_neg h0]
    have h5 : laws_sameBytes.f k b b = some true := by rw [laws_sameBytes_eq b b (by omega) (by omega)]; simp
    rw [e1, RU_end]
    simp only [laws_FnVarints.j0]
    by_cases h1 : n < 0
    · rw [if_pos h1, if_pos (by simp), if_neg (by simp), h5]; simp only [Option.bind_some]
      rw [if_pos (by simp), h2]
    · rw [if_neg h1, if_pos (by simp; omega), if_neg (by simp), h5]; simp only [Option.bind_some]
      rw [if_pos (by simp), h2]
end KFnVarints
theorem FnVarints : laws_FnVarints.Pure := KFnVarints.proved
end Go.Proofs.Ytipdmghnabchaaa.Pure
