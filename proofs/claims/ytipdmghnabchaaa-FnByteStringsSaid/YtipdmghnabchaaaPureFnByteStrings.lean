/- byte strings and lists of integers are decoded from their encodings, for every input. -/
import Derived.Test.YtipdmghnabchaaaPFnByteStringsx3
import Derived.Test.YtipdmghnabchaaaNum4
set_option linter.unusedVariables false
set_option linter.unusedSimpArgs false
namespace Go.Proofs.Ytipdmghnabchaaa.Pure
open Go.RowKit Go.Proofs.Ytipdmghnabchaaa.PFnByteStrings Go.Proofs.YtipdmghnabchaaaW.PrintWords Go.Proofs.YtipdmghnabchaaaW.PrintLast Go.Proofs.Ytipdmghnabchaaa.Num
namespace KFnByteStrings
theorem impl_copyBytes_eq (l : List Int) (hl : l.length ≤ 1000000000000) : impl_copyBytes.f l = some l := by
  unfold impl_copyBytes.f
  simp only [Option.bind_some, List.nil_append]
  rw [if_pos (by simp; omega)]
theorem impl_AppendUvarint_l0 : ∀ (f k : Nat) (n : Int) (x : List Int), f + 2 ≤ k → 0 ≤ n → n < 128 ^ (f + 1) → n ≤ 1000000000000 → x.length + f ≤ 100000000000000 → impl_AppendUvarint.l0 k n x = some (x ++ AV f n) := by
  intro f
  induction f with
  | zero =>
    intro k n x hk h0 h1 h2 hx
    obtain ⟨k, rfl⟩ : ∃ m, k = m + 1 := ⟨k - 1, by omega⟩
    have e : (128 : Int) ^ (0 + 1) = 128 := by decide
    simp only [impl_AppendUvarint.l0, AV]
    rw [if_neg (by omega), if_pos (by omega), show n % 256 = n by omega]
  | succ f ih =>
    intro k n x hk h0 h1 h2 hx
    obtain ⟨k, rfl⟩ : ∃ m, k = m + 1 := ⟨k - 1, by omega⟩
    simp only [impl_AppendUvarint.l0]
    by_cases h : 128 ≤ n
    · have h5 : n / 128 < 128 ^ (f + 1) := by
        rw [Int.pow_succ] at h1
        exact Int.ediv_lt_of_lt_mul (by omega) h1
      have eb : wrap64 (Int.tmod n 128 + 128) % 256 = n % 128 + 128 := by
        rw [Int.tmod_eq_emod_of_nonneg h0, w64 (by omega) (by omega)]; omega
      have ed : wrap64 (Int.tdiv n 128) = n / 128 := by
        rw [Int.tdiv_eq_ediv_of_nonneg h0, w64 (by omega) (by omega)]
      rw [if_pos (by omega), if_pos (by omega), eb, ed, ih k (n / 128) _ (by omega) (by omega) h5 (by omega) (by simp; omega)]
      simp only [AV]
      rw [if_pos h, List.append_assoc]; rfl
    · rw [if_neg (by omega), if_pos (by omega), AV_small _ (by omega), show n % 256 = n by omega]

theorem impl_AppendUvarint_eq {k : Nat} (hk : 100 ≤ k) (b : List Int) (n : Int) (hb : b.length ≤ 1000000000000) : impl_AppendUvarint.f k b n = some (AU b n) := by
  unfold impl_AppendUvarint.f AU
  rw [impl_copyBytes_eq b hb]; simp only [Option.bind_some]
  obtain ⟨k, rfl⟩ : ∃ m, k = m + 1 := ⟨k - 1, by omega⟩
  simp only [impl_AppendUvarint.j0]
  by_cases h : 0 ≤ n ∧ n ≤ 1000000000000
  · rw [if_neg (by omega), if_neg (by simp; omega), if_pos h]
    exact impl_AppendUvarint_l0 5 k n b (by omega) h.1 (by rw [pow_128_6]; omega) h.2 (by omega)
  · rw [if_neg h]
    by_cases h1 : n < 0
    · rw [if_pos h1, if_pos (by simp)]
    · rw [if_neg h1, if_pos (by simp; omega)]
theorem impl_AppendBytes_eq {k : Nat} (hk : 100 ≤ k) (b s : List Int) (hb : b.length ≤ 1000000000) (hs : s.length ≤ 1000000000) : impl_AppendBytes.f k b s = some (AU b (s.length : Int) ++ s) := by
  unfold impl_AppendBytes.f
  have h := AU_length b (s.length : Int)
  rw [impl_AppendUvarint_eq hk b _ (by omega)]; simp only [Option.bind_some]
  rw [if_pos (by omega)]
theorem impl_ReadUvarint_l0 (l : List Int) (hb : ∀ x ∈ l, 0 ≤ x ∧ x ≤ 255) (hl : l.length ≤ 1000000000000) (o : Nat) : ∀ (f k i : Nat) (n w : Int), f + i = 6 → f < k → Wt i w → 0 ≤ n → n < w → o ≤ 1000000000000 →
    impl_ReadUvarint.l0 k l (o : Int) n w (i : Int) = some (out (o : Int) (RV f (l.drop (o + i)) n w i)) := by
  intro f
  induction f with
  | zero =>
    intro k i n w hf hk hw h0 h1 ho
    obtain ⟨k, rfl⟩ : ∃ m, k = m + 1 := ⟨k - 1, by omega⟩
    simp only [impl_ReadUvarint.l0, RV]
    rw [if_neg (by omega)]; rfl
  | succ f ih =>
    intro k i n w hf hk hw h0 h1 ho
    obtain ⟨k, rfl⟩ : ∃ m, k = m + 1 := ⟨k - 1, by omega⟩
    have e : wrap64 ((o : Int) + (i : Int)) = ((o + i : Nat) : Int) := by rw [w64 (by omega) (by omega)]; omega
    simp only [impl_ReadUvarint.l0]
    rw [if_pos (by omega), e]
    have q1 : f + (i + 1) = 6 := by omega
    have q2 : f < k := by omega
    have q3 : i < 6 := by omega
    have q4 : (i : Int) > 0 → 0 < i := fun h => by omega
    have q5 : ¬ (i : Int) > 0 → i = 0 := fun h => by omega
    have q6 : i ≤ 9223372036854775806 := by omega
    by_cases h : o + i < l.length
    · have hv := hb _ (List.getElem_mem h)
      rw [if_neg (by omega), if_pos (by omega), if_pos (by omega), rd_at h, List.drop_eq_getElem_cons h]
      generalize l[o + i] = c at hv
      have ec : wrap64 c = c := w64 (by omega) (by omega)
      have en : wrap64 (((o + i : Nat) : Int) + 1) = (o : Int) + ((i + 1 : Nat) : Int) := by rw [w64 (by omega) (by omega)]; omega
      rw [ec, en]
      simp only [RV]
      by_cases hc : c < 128
      · have hg := group_bound hw h0 h1 hv.1 (show c ≤ 127 by omega)
        have et : Int.tmod c 128 = c := by rw [Int.tmod_eq_emod_of_nonneg hv.1]; omega
        have ew : wrap64 (n + wrap64 (c * w)) = n + c * w := by
          generalize c * w = p at hg
          rw [w64 (n := p) (by omega) (by omega), w64 (by omega) (by omega)]
        rw [if_pos hc, if_pos hc, et, ew]
        generalize n + c * w = z
        by_cases hi : (i : Int) > 0
        · rw [if_pos hi]
          by_cases h2 : c = 0
          · rw [if_pos h2, if_pos (show (0 < i ∧ c = 0) ∨ z > 1000000000000 from Or.inl ⟨q4 hi, h2⟩)]; rfl
          · rw [if_neg h2]
            by_cases h3 : z > 1000000000000
            · rw [if_pos h3, if_pos (show (0 < i ∧ c = 0) ∨ z > 1000000000000 from Or.inr h3)]; rfl
            · rw [if_neg h3, if_neg (fun h4 => h4.elim (fun h5 => h2 h5.2) h3)]; rfl
        · rw [if_neg hi]
          by_cases h3 : z > 1000000000000
          · rw [if_pos h3, if_pos (show (0 < i ∧ c = 0) ∨ z > 1000000000000 from Or.inr h3)]; rfl
          · rw [if_neg h3, if_neg (fun h4 => h4.elim (fun h5 => absurd (q5 hi) (Nat.pos_iff_ne_zero.1 h5.1)) h3)]; rfl
      · have hg := group_bound hw h0 h1 (show 0 ≤ c - 128 by omega) (show c - 128 ≤ 127 by omega)
        have et : Int.tmod c 128 = c - 128 := by rw [Int.tmod_eq_emod_of_nonneg hv.1]; omega
        have ewb : wrap64 (w * 128) = w * 128 := by
          have hwb := hw.bound
          clear hg
          exact w64 (by omega) (by omega)
        have ew : wrap64 (n + wrap64 ((c - 128) * w)) = n + (c - 128) * w := by
          generalize (c - 128) * w = p at hg
          rw [w64 (n := p) (by omega) (by omega), w64 (by omega) (by omega)]
        rw [if_neg hc, if_neg hc, et, ew, ewb, nxt q6]
        exact ih k (i + 1) _ _ q1 q2 (hw.next q3) (Int.add_nonneg h0 hg.1) hg.2.2.1 ho
    · rw [if_pos (by omega), List.drop_eq_nil_of_le (by omega)]; rfl
theorem impl_ReadUvarint_eq {k : Nat} (hk : 100 ≤ k) (l : List Int) (hb : ∀ x ∈ l, 0 ≤ x ∧ x ≤ 255) (hl : l.length ≤ 1000000000000) (o : Int) : impl_ReadUvarint.f k l o = some (RU l o) := by
  unfold impl_ReadUvarint.f RU
  obtain ⟨k, rfl⟩ : ∃ m, k = m + 1 := ⟨k - 1, by omega⟩
  simp only [impl_ReadUvarint.j0]
  by_cases h0 : o < 0
  · rw [if_pos h0, if_pos (by simp), if_neg (by omega)]
  · rw [if_neg h0]
    obtain ⟨O, rfl⟩ := Int.eq_ofNat_of_zero_le (show 0 ≤ o by omega)
    by_cases h1 : (O : Int) < (l.length : Int)
    · rw [if_neg (by simp; omega), if_pos ⟨by omega, h1⟩, Int.toNat_natCast]
      exact impl_ReadUvarint_l0 l hb hl O 6 k 0 0 1 (by omega) (by omega) Wt.zero (by omega) (by omega) (by omega)
    · rw [if_pos (by simp; omega), if_neg (by omega)]
theorem impl_ReadBytes_eq {k : Nat} (hk : 100 ≤ k) (l : List Int) (hb : ∀ x ∈ l, 0 ≤ x ∧ x ≤ 255) (hl : l.length ≤ 1000000000) (o m : Int) : impl_ReadBytes.f k l o m = some (RB l o m) := by
  unfold impl_ReadBytes.f RB
  rw [impl_ReadUvarint_eq hk l hb (by omega)]; simp only [Option.bind_some]
  cases h : (RU l o).2.2 with
  | false => rw [if_neg (by simp), if_neg (by simp)]
  | true =>
    have ht := RU_true h
    have hn : 0 ≤ (RU l o).1 := by
      have := RU_inv hb (o := o) (m := (RU l o).1) (a := (RU l o).2.1) (by rw [← h])
      omega
    generalize RU l o = q at *
    rw [if_pos rfl, w64 (n := (l.length : Int) - q.2.1) (by omega) (by omega)]
    by_cases h1 : q.1 > m
    · rw [if_pos h1, if_neg (by omega)]
    · rw [if_neg h1]
      by_cases h2 : q.1 > (l.length : Int) - q.2.1
      · rw [if_pos h2, if_neg (by omega)]
      · rw [if_neg h2, w64 (n := q.2.1 + q.1) (by omega) (by omega), if_pos (by omega), if_pos (by omega), if_pos (by omega), impl_copyBytes_eq _ (by simp only [List.length_drop, List.length_take]; omega), if_pos ⟨rfl, by omega, by omega⟩]; rfl
theorem impl_EncodeInts_l0 (l : List Int) (hl : l.length ≤ 1000000000) : ∀ (j k i : Nat) (x : List Int), l.length - i ≤ j → j + 100 < k → x.length + 6 * (l.length - i) ≤ 100000000000 → impl_EncodeInts.l0 k x l (l.length : Int) (i : Int) = some (EI x (l.drop i)) := by
  intro j
  induction j with
  | zero =>
    intro k i x hi hk hx
    obtain ⟨k, rfl⟩ : ∃ m, k = m + 1 := ⟨k - 1, by omega⟩
    simp only [impl_EncodeInts.l0]
    rw [if_neg (by omega), List.drop_eq_nil_of_le (by omega)]; rfl
  | succ j ih =>
    intro k i x hi hk hx
    obtain ⟨k, rfl⟩ : ∃ m, k = m + 1 := ⟨k - 1, by omega⟩
    simp only [impl_EncodeInts.l0]
    by_cases h : i < l.length
    · have ha := AU_length x l[i]
      rw [if_pos (by omega), if_pos (by omega), if_pos (by omega), rd_at h, impl_AppendUvarint_eq (by omega) x _ (by omega)]; simp only [Option.bind_some]
      rw [nxt (by omega), ih k (i + 1) _ (by omega) (by omega) (by omega), List.drop_eq_getElem_cons h]; rfl
    · rw [if_neg (by omega), List.drop_eq_nil_of_le (by omega)]; rfl
theorem impl_EncodeInts_eq {k : Nat} (l : List Int) (hl : l.length ≤ 1000000000) (hk : l.length + 100 < k) : impl_EncodeInts.f k l = some (EI [] l) := by
  unfold impl_EncodeInts.f
  exact impl_EncodeInts_l0 l hl l.length k 0 _ (by omega) hk (by simp; omega)
theorem impl_DecodeInts_l0 (l : List Int) (hb : ∀ x ∈ l, 0 ≤ x ∧ x ≤ 255) (hl : l.length ≤ 1000000000) (N : Nat) (hN : N ≤ 100) : ∀ (d k i : Nat) (o : Int) (acc : List Int), d + i = N → d + 200 < k → acc.length = i →
    impl_DecodeInts.l0 k l o (N : Int) acc (i : Int) = some (DI l d o acc) := by
  intro d
  induction d with
  | zero =>
    intro k i o acc hd hk ha
    obtain ⟨k, rfl⟩ : ∃ m, k = m + 1 := ⟨k - 1, by omega⟩
    simp only [impl_DecodeInts.l0, DI]
    rw [if_neg (by omega)]
  | succ d ih =>
    intro k i o acc hd hk ha
    obtain ⟨k, rfl⟩ : ∃ m, k = m + 1 := ⟨k - 1, by omega⟩
    simp only [impl_DecodeInts.l0, DI]
    rw [if_pos (by omega), impl_ReadUvarint_eq (by omega) l hb (by omega)]; simp only [Option.bind_some]
    by_cases h : (RU l o).2.2 = true
    · rw [if_pos h, if_pos h, if_pos (by omega), nxt (by omega)]
      exact ih k (i + 1) _ _ (by omega) (by omega) (by simp; omega)
    · rw [if_neg h, if_neg h]
theorem impl_DecodeInts_eq {k : Nat} (hk : 1000 ≤ k) (l : List Int) (hb : ∀ x ∈ l, 0 ≤ x ∧ x ≤ 255) (hl : l.length ≤ 1000000000) (o n : Int) : impl_DecodeInts.f k l o n = some (DD l o n) := by
  unfold impl_DecodeInts.f DD
  obtain ⟨k, rfl⟩ : ∃ m, k = m + 1 := ⟨k - 1, by omega⟩
  simp only [impl_DecodeInts.j0]
  by_cases h0 : n < 0
  · rw [if_pos h0, if_pos (by simp), if_neg (by omega)]
  rw [if_neg h0]
  by_cases h1 : n > 100
  · rw [if_pos h1, if_pos (by simp), if_neg (by omega)]
  rw [if_neg h1]
  by_cases h2 : o < 0
  · rw [if_pos h2, if_pos (by simp), if_neg (by omega)]
  rw [if_neg h2]
  by_cases h3 : o > (l.length : Int)
  · rw [if_pos (by simp; omega), if_neg (by omega)]
  rw [if_neg (by simp; omega), if_pos (by omega)]
  obtain ⟨N, rfl⟩ := Int.eq_ofNat_of_zero_le (show 0 ≤ n by omega)
  exact impl_DecodeInts_l0 l hb hl N (by omega) N k 0 o [] (by omega) (by omega) rfl
theorem laws_big_eq (l : List Int) : laws_big.f l = some (decide ((l.length : Int) > 1048576)) := rfl
theorem spec_l1New_l0 (l : List Int) (hl : l.length ≤ 4611686018427387904) : ∀ (j k i : Nat) (h : Int), l.length - i ≤ j → j < k → ∃ h', spec_l1New.l0 k l h (i : Int) = some (l, 0, h') := by
  intro j
  induction j with
  | zero =>
    intro k i h hi hk
    obtain ⟨k, rfl⟩ : ∃ m, k = m + 1 := ⟨k - 1, by omega⟩
    simp only [spec_l1New.l0]
    rw [if_neg (by omega)]; exact ⟨_, rfl⟩
  | succ j ih =>
    intro k i h hi hk
    obtain ⟨k, rfl⟩ : ∃ m, k = m + 1 := ⟨k - 1, by omega⟩
    simp only [spec_l1New.l0]
    by_cases h1 : (i : Int) < (l.length : Int)
    · rw [if_pos h1]
      by_cases h2 : (i : Int) < 4000
      · rw [if_pos h2, if_pos (by omega), nxt (by omega)]
        exact ih k (i + 1) _ (by omega) (by omega)
      · rw [if_neg h2]; exact ⟨_, rfl⟩
    · rw [if_neg h1]; exact ⟨_, rfl⟩
theorem spec_l1New_ok {k : Nat} (l : List Int) (hl : l.length ≤ 4611686018427387904) (hk : l.length < k) : ∃ h, spec_l1New.f k l = some (l, 0, h) := by
  unfold spec_l1New.f
  exact spec_l1New_l0 l hl l.length k 0 _ (by omega) hk
theorem spec_l1Byte_ok (l : List Int) (i h : Int) (hi : 0 ≤ i) (hl : l.length ≤ 4611686018427387904) : ∃ v i' h', spec_l1Byte.f l i h = some (v, i', h') ∧ 0 ≤ i' ∧ 0 ≤ v ∧ v ≤ 255 := by
  unfold spec_l1Byte.f
  by_cases h1 : i < (l.length : Int)
  · rw [if_pos h1, if_pos hi, w64 (n := i + 1) (by omega) (by omega)]
    exact ⟨_, _, _, rfl, by omega, (and255_range _).1, (and255_range _).2⟩
  · rw [if_neg h1]
    exact ⟨_, _, _, rfl, hi, (and255_range _).1, (and255_range _).2⟩
theorem spec_l1Bytes_l0 (l : List Int) (hl : l.length ≤ 4611686018427387904) (n : Nat) (hn : n ≤ 1000000) : ∀ (j k q : Nat) (x : List Int) (i h : Int), n - q ≤ j → j < k → q ≤ n → x.length = q → 0 ≤ i → (∀ y ∈ x, 0 ≤ y ∧ y ≤ 255) →
    ∃ x' i' h', spec_l1Bytes.l0 k (n : Int) x (q : Int) l i h = some (x', i', h') ∧ x'.length = n ∧ 0 ≤ i' ∧ ∀ y ∈ x', 0 ≤ y ∧ y ≤ 255 := by
  intro j
  induction j with
  | zero =>
    intro k q x i h hj hk hq hx hi hb
    obtain ⟨k, rfl⟩ : ∃ m, k = m + 1 := ⟨k - 1, by omega⟩
    simp only [spec_l1Bytes.l0]
    rw [if_neg (by omega)]
    exact ⟨x, i, h, rfl, by omega, hi, hb⟩
  | succ j ih =>
    intro k q x i h hj hk hq hx hi hb
    obtain ⟨k, rfl⟩ : ∃ m, k = m + 1 := ⟨k - 1, by omega⟩
    simp only [spec_l1Bytes.l0]
    by_cases hlt : q < n
    · obtain ⟨v, i1, g1, e, h2, h3, h4⟩ := spec_l1Byte_ok l i h hi hl
      rw [if_pos (by omega), e]; simp only [Option.bind_some]
      rw [if_pos (by omega), nxt (by omega)]
      refine ih k (q + 1) _ i1 g1 (by omega) (by omega) (by omega) (by simp; omega) h2 (fun y hy => ?_)
      rcases List.mem_append.1 hy with hy | hy
      · exact hb y hy
      · rw [List.mem_singleton] at hy
        subst hy
        omega
    · rw [if_neg (by omega)]
      exact ⟨x, i, h, rfl, by omega, hi, hb⟩
theorem spec_l1Bytes_ok {k : Nat} (l : List Int) (i h n : Int) (hl : l.length ≤ 4611686018427387904) (h0 : 0 ≤ n) (hn : n ≤ 1000000) (hk : 1000000 < k) (hi : 0 ≤ i) :
    ∃ x' i' h', spec_l1Bytes.f k l i h n = some (x', i', h') ∧ (x'.length : Int) = n ∧ 0 ≤ i' ∧ ∀ y ∈ x', 0 ≤ y ∧ y ≤ 255 := by
  obtain ⟨N, rfl⟩ := Int.eq_ofNat_of_zero_le h0
  unfold spec_l1Bytes.f
  obtain ⟨x', i', h', e, e1, e2, e3⟩ := spec_l1Bytes_l0 l hl N (by omega) N k 0 [] i h (by omega) (by omega) (by omega) rfl hi (by simp)
  exact ⟨x', i', h', e, by omega, e2, e3⟩
theorem spec_l1Below_ok (l : List Int) (i h n : Int) (hi : 0 ≤ i) (hl : l.length ≤ 4611686018427387904) : ∃ v i' h', spec_l1Below.f l i h n = some (v, i', h') ∧ 0 ≤ i' ∧ 0 ≤ v ∧ v ≤ 16777215 ∧ (0 < n → v < n) ∧ (n ≤ 0 → v = 0) := by
  unfold spec_l1Below.f
  by_cases h0 : n ≤ 0
  · rw [if_pos h0]; exact ⟨_, _, _, rfl, hi, by omega, by omega, by omega, by omega⟩
  rw [if_neg h0]
  by_cases h1 : n ≤ 256
  · rw [if_pos h1]
    obtain ⟨v, i1, g1, e, h2, h3, h4⟩ := spec_l1Byte_ok l i h hi hl
    rw [e]; simp only [Option.bind_some]
    rw [if_neg (by omega), Int.tmod_eq_emod_of_nonneg h3]
    have r0 : 0 ≤ v % n := Int.emod_nonneg _ (by omega)
    have r1 : v % n < n := Int.emod_lt_of_pos _ (by omega)
    exact ⟨_, _, _, rfl, h2, r0, by omega, fun _ => r1, by omega⟩
  · rw [if_neg h1]
    obtain ⟨v1, i1, g1, e1, a1, b1, c1⟩ := spec_l1Byte_ok l i h hi hl
    rw [e1]; simp only [Option.bind_some]
    obtain ⟨v2, i2, g2, e2, a2, b2, c2⟩ := spec_l1Byte_ok l i1 g1 a1 hl
    rw [e2]; simp only [Option.bind_some]
    obtain ⟨v3, i3, g3, e3, a3, b3, c3⟩ := spec_l1Byte_ok l i2 g2 a2 hl
    rw [e3]; simp only [Option.bind_some]
    rw [if_neg (by omega), w64 (n := v1 * 65536) (by omega) (by omega), w64 (n := v2 * 256) (by omega) (by omega), w64 (n := v1 * 65536 + v2 * 256) (by omega) (by omega), w64 (by omega) (by omega), Int.tmod_eq_emod_of_nonneg (by omega)]
    have r0 : 0 ≤ (v1 * 65536 + v2 * 256 + v3) % n := Int.emod_nonneg _ (by omega)
    have r1 : (v1 * 65536 + v2 * 256 + v3) % n < n := Int.emod_lt_of_pos _ (by omega)
    have r2 : (v1 * 65536 + v2 * 256 + v3) % n ≤ v1 * 65536 + v2 * 256 + v3 := by
      by_cases hlt : v1 * 65536 + v2 * 256 + v3 < n
      · rw [Int.emod_eq_of_lt (by omega) hlt]; omega
      · omega
    exact ⟨_, _, _, rfl, a3, r0, by omega, fun _ => r1, by omega⟩
theorem spec_DrawAppendBytes_ok {k : Nat} (l : List Int) (hl : l.length ≤ 1048576) (hk : 1048576 < k) : ∃ b s, spec_DrawAppendBytes.f k l = some (b, s) ∧ b.length ≤ 2 ∧ s.length ≤ 5 ∧ (∀ y ∈ b, 0 ≤ y ∧ y ≤ 255) ∧ ∀ y ∈ s, 0 ≤ y ∧ y ≤ 255 := by
  unfold spec_DrawAppendBytes.f
  obtain ⟨h, e⟩ := spec_l1New_ok (k := k) l (by omega) (by omega)
  rw [e]; simp only [Option.bind_some]
  obtain ⟨v2, i2, g2, e2, h2, a2, b2, c2, _⟩ := spec_l1Below_ok l 0 h 3 (by omega) (by omega)
  have c2' := c2 (by omega)
  rw [e2]; simp only [Option.bind_some]
  obtain ⟨v3, i3, g3, e3, h3, a3, b3⟩ := spec_l1Bytes_ok (k := k) l i2 g2 v2 (by omega) a2 (by omega) (by omega) h2
  rw [e3]; simp only [Option.bind_some]
  obtain ⟨v4, i4, g4, e4, h4, a4, b4, c4, _⟩ := spec_l1Below_ok l i3 g3 6 a3 (by omega)
  have c4' := c4 (by omega)
  rw [e4]; simp only [Option.bind_some]
  obtain ⟨v5, i5, g5, e5, h5, a5, b5⟩ := spec_l1Bytes_ok (k := k) l i4 g4 v4 (by omega) a4 (by omega) (by omega) h4
  rw [e5]; simp only [Option.bind_some]
  exact ⟨_, _, rfl, by omega, by omega, b3, b5⟩
theorem laws_sameBytes_l0 (a b : List Int) (hl : a.length = b.length) (hm : a.length ≤ 4611686018427387904) : ∀ (j k i : Nat), a.length - i ≤ j → j < k → laws_sameBytes.l0 k a b (i : Int) = some (decide (a.drop i = b.drop i)) := by
  intro j
  induction j with
  | zero =>
    intro k i hi hk
    obtain ⟨k, rfl⟩ : ∃ m, k = m + 1 := ⟨k - 1, by omega⟩
    simp only [laws_sameBytes.l0]
    rw [if_neg (by omega), List.drop_eq_nil_of_le (by omega), List.drop_eq_nil_of_le (by omega)]; simp
  | succ j ih =>
    intro k i hi hk
    obtain ⟨k, rfl⟩ : ∃ m, k = m + 1 := ⟨k - 1, by omega⟩
    simp only [laws_sameBytes.l0]
    by_cases h : i < a.length
    · have hb : i < b.length := by omega
      rw [if_pos (by omega), if_pos (by omega), if_pos (by omega), nxt (by omega), rd_at h, rd_at hb, ih k (i + 1) (by omega) (by omega), List.drop_eq_getElem_cons h, List.drop_eq_getElem_cons hb]
      by_cases e : a[i] = b[i]
      · rw [if_pos e]; congr 1; rw [decide_eq_decide]; exact ⟨fun h1 => by rw [e, h1], fun h1 => (List.cons.inj h1).2⟩
      · rw [if_neg e]; congr 1; symm; rw [decide_eq_false_iff_not]; exact fun h1 => e (List.cons.inj h1).1
    · rw [if_neg (by omega), List.drop_eq_nil_of_le (by omega), List.drop_eq_nil_of_le (by omega)]; simp
theorem laws_sameBytes_eq {k : Nat} (a b : List Int) (hm : a.length ≤ 4611686018427387904) (hk : a.length < k) : laws_sameBytes.f k a b = some (decide (a = b)) := by
  unfold laws_sameBytes.f
  by_cases h : a.length = b.length
  · rw [if_pos (by omega)]
    exact laws_sameBytes_l0 a b h hm a.length k 0 (by omega) hk
  · rw [if_neg (by omega)]
    have : a ≠ b := fun e => h (by rw [e])
    simp [this]
theorem laws_sameBytes_self {k : Nat} (a : List Int) (hm : a.length ≤ 1048576) (hk : 1048576 < k) : laws_sameBytes.f k a a = some true := by
  rw [laws_sameBytes_eq a a (by omega) (by omega)]; simp
theorem laws_at_ok (l : List Int) (hb : ∀ x ∈ l, (Lit.int .u8 x).wf = true) (hl : l.length ≤ 1048576) (i : Int) (h0 : 0 ≤ i) (h1 : i ≤ 1048576) : ∃ v, laws_at.f l i = some v ∧ 0 ≤ v ∧ v ≤ 255 := by
  unfold laws_at.f
  by_cases h : i < (l.length : Int)
  · obtain ⟨j, rfl⟩ := Int.eq_ofNat_of_zero_le h0
    have hj : j < l.length := by omega
    have hv := wfb (hb _ (List.getElem_mem hj))
    rw [if_pos h, if_pos h0, rd_at hj, w64 (by omega) (by omega)]
    exact ⟨_, rfl, hv.1, hv.2⟩
  · rw [if_neg h, w64 (n := i * 31) (by omega) (by omega), w64 (n := (l.length : Int) * 7) (by omega) (by omega), w64 (by omega) (by omega), Int.tmod_eq_emod_of_nonneg (by omega)]
    exact ⟨_, rfl, by omega, by omega⟩
theorem laws_sameInts_l0 (a b : List Int) (hl : a.length = b.length) (hm : a.length ≤ 4611686018427387904) : ∀ (j k i : Nat), a.length - i ≤ j → j < k → laws_sameInts.l0 k a b (i : Int) = some (decide (a.drop i = b.drop i)) := by
  intro j
  induction j with
  | zero =>
    intro k i hi hk
    obtain ⟨k, rfl⟩ : ∃ m, k = m + 1 := ⟨k - 1, by omega⟩
    simp only [laws_sameInts.l0]
    rw [if_neg (by omega), List.drop_eq_nil_of_le (by omega), List.drop_eq_nil_of_le (by omega)]; simp
  | succ j ih =>
    intro k i hi hk
    obtain ⟨k, rfl⟩ : ∃ m, k = m + 1 := ⟨k - 1, by omega⟩
    simp only [laws_sameInts.l0]
    by_cases h : i < a.length
    · have hb : i < b.length := by omega
      rw [if_pos (by omega), if_pos (by omega), if_pos (by omega), nxt (by omega), rd_at h, rd_at hb, ih k (i + 1) (by omega) (by omega), List.drop_eq_getElem_cons h, List.drop_eq_getElem_cons hb]
      by_cases e : a[i] = b[i]
      · rw [if_pos e]; congr 1; rw [decide_eq_decide]; exact ⟨fun h1 => by rw [e, h1], fun h1 => (List.cons.inj h1).2⟩
      · rw [if_neg e]; congr 1; symm; rw [decide_eq_false_iff_not]; exact fun h1 => e (List.cons.inj h1).1
    · rw [if_neg (by omega), List.drop_eq_nil_of_le (by omega), List.drop_eq_nil_of_le (by omega)]; simp
theorem laws_sameInts_eq {k : Nat} (a b : List Int) (hm : a.length ≤ 4611686018427387904) (hk : a.length < k) : laws_sameInts.f k a b = some (decide (a = b)) := by
  unfold laws_sameInts.f
  by_cases h : a.length = b.length
  · rw [if_pos (by omega)]
    exact laws_sameInts_l0 a b h hm a.length k 0 (by omega) hk
  · rw [if_neg (by omega)]
    have : a ≠ b := fun e => h (by rw [e])
    simp [this]
theorem laws_sameInts_self {k : Nat} (a : List Int) (hm : a.length ≤ 1048576) (hk : 1048576 < k) : laws_sameInts.f k a a = some true := by
  rw [laws_sameInts_eq a a (by omega) (by omega)]; simp
theorem rounds (l0 : List Int) (hb : ∀ x ∈ l0, (Lit.int .u8 x).wf = true) (hl : l0.length ≤ 1048576) (t : Int) (et : laws_at.f l0 0 = some t) (t0 : 0 ≤ t) :
    ∀ (d k i : Nat) (acc : List Int), d + i = (t % 6).toNat → d + 100000000 ≤ k → acc.length = i → i ≤ 5 → (∀ x ∈ acc, 0 ≤ x ∧ x ≤ 1000000000000) → laws_FnByteStrings.l0 k l0 acc (i : Int) = some true := by
  intro d
  induction d with
  | zero =>
    intro k i acc hd hk ha hi5 hacc
    obtain ⟨k, rfl⟩ : ∃ j, k = j + 1 := ⟨k - 1, by omega⟩
    have hel := EI_length acc []
    simp only [List.length_nil] at hel
    have her := EI_range acc [] (by simp)
    have d1 := DI_EI acc hacc [] [] 0
    have d2 := DI_EI acc hacc [] [] 1
    have f1 : DD (EI [] acc) 0 (acc.length : Int) = (acc, ((EI [] acc).length : Int), true) := by
      unfold DD
      rw [if_pos (by omega), Int.toNat_natCast]
      exact d1
    have f2 : DD (EI [] acc) 0 ((acc.length : Int) + 1) = ([], 0, false) := by
      unfold DD
      rw [if_pos (by omega), show ((acc.length : Int) + 1).toNat = acc.length + 1 by omega]
      refine Eq.trans d2 ?_
      simp only [DI]
      rw [RU_end]; simp
    have h5 : laws_sameInts.f k acc acc = some true := by rw [laws_sameInts_eq acc acc (by omega) (by omega)]; simp
    simp only [laws_FnByteStrings.l0, et, Option.bind_some]
    rw [Int.tmod_eq_emod_of_nonneg t0, if_neg (by omega)]
    simp only [impl_EncodeInts_eq acc (show _ ≤ 1000000000 by omega) (show _ < k by omega), impl_DecodeInts_eq (show 1000 ≤ k by omega) _ her (show _ ≤ 1000000000 by omega), w64 (n := (acc.length : Int) + 1) (by omega) (by omega), f1, f2, h5, Option.bind_some]
    simp
  | succ d ih =>
    intro k i acc hd hk ha hi5 hacc
    obtain ⟨k, rfl⟩ : ∃ j, k = j + 1 := ⟨k - 1, by omega⟩
    obtain ⟨v1, e1, b1, c1⟩ := laws_at_ok l0 hb hl ((i : Int) + 1) (by omega) (by omega)
    obtain ⟨v2, e2, b2, c2⟩ := laws_at_ok l0 hb hl ((i : Int) + 2) (by omega) (by omega)
    obtain ⟨v3, e3, b3, c3⟩ := laws_at_ok l0 hb hl ((i : Int) + 3) (by omega) (by omega)
    have p0 : 0 ≤ v1 * v2 := Int.mul_nonneg b1 b2
    have p1 : v1 * v2 ≤ 255 * 255 := Int.mul_le_mul c1 c2 b2 (by omega)
    have q0 : 0 ≤ v1 * v2 * v3 := Int.mul_nonneg p0 b3
    have q1 : v1 * v2 * v3 ≤ 255 * 255 * 255 := Int.mul_le_mul p1 c3 b3 (by omega)
    simp only [laws_FnByteStrings.l0, et, Option.bind_some]
    rw [Int.tmod_eq_emod_of_nonneg t0, if_pos (by omega), w64 (n := (i : Int) + 1) (by omega) (by omega), w64 (n := (i : Int) + 2) (by omega) (by omega), w64 (n := (i : Int) + 3) (by omega) (by omega), e1, e2, e3]; simp only [Option.bind_some]
    rw [if_pos (by omega), w64 (n := v1 * v2) (by omega) (by omega), w64 (n := v1 * v2 * v3) (by omega) (by omega)]
    refine ih k (i + 1) _ (by omega) (by omega) (by simp; omega) (by omega) (fun x hx => ?_)
    rcases List.mem_append.1 hx with hx | hx
    · exact hacc x hx
    · rw [List.mem_singleton] at hx
      subst hx
      omega
theorem proved : laws_FnByteStrings.Pure := by
  intro l0 _ _ hb0
  obtain ⟨K, hK⟩ : ∃ K : Nat, 1000000000 ≤ K := ⟨_, Nat.le_refl _⟩
  refine ⟨K, ?_⟩
  unfold laws_FnByteStrings.f
  rw [laws_big_eq]; simp only [Option.bind_some]
  by_cases hl : (l0.length : Int) > 1048576
  · rw [if_pos (by simpa using hl)]
  rw [if_neg (by simpa using hl)]
  obtain ⟨b, s, e, hlb, hls, hb, hs⟩ := spec_DrawAppendBytes_ok (k := K) l0 (by omega) (by omega)
  have ha := AU_length b (s.length : Int)
  have hr := AU_range b (s.length : Int) hb
  have hx : ∀ y ∈ AU b (s.length : Int) ++ s, 0 ≤ y ∧ y ≤ 255 := by
    intro y hy
    rcases List.mem_append.1 hy with hy | hy
    · exact hr y hy
    · exact hs y hy
  have hxl : (AU b (s.length : Int) ++ s).length ≤ 1000 := by rw [List.length_append]; omega
  have e1 : AU b (s.length : Int) = b ++ AV 5 (s.length : Int) := by unfold AU; rw [if_pos (by omega)]
  have e2 := RU_AU b s (n := (s.length : Int)) (by omega) (by omega)
  rw [← e1] at e2
  have e3 : RB (AU b (s.length : Int) ++ s) (b.length : Int) (s.length : Int) = (s, ((AU b (s.length : Int) ++ s).length : Int), true) := by
    unfold RB
    rw [e2]
    simp only
    rw [if_pos ⟨trivial, by omega, by rw [List.length_append]; omega⟩, show (((AU b (s.length : Int)).length : Int) + (s.length : Int)).toNat = (AU b (s.length : Int) ++ s).length by rw [List.length_append]; omega, List.take_length, Int.toNat_natCast, List.drop_left, List.length_append]
    congr 2
  have e4 : (RB (AU b (s.length : Int) ++ s) (b.length : Int) ((s.length : Int) - 1)).2.2 = false := by
    unfold RB
    rw [e2]
    simp only
    rw [if_neg (fun h => by omega)]
  have h5 : laws_sameBytes.f K s s = some true := by rw [laws_sameBytes_eq s s (by omega) (by omega)]; simp
  have hj : laws_FnByteStrings.j0 K l0 false = some true := by
    obtain ⟨k, rfl⟩ : ∃ j, K = j + 1 := ⟨K - 1, by omega⟩
    simp only [laws_FnByteStrings.j0]
    rw [if_neg (by simp)]
    obtain ⟨t, et, t0, t1⟩ := laws_at_ok l0 hb0 (by omega) 0 (by omega) (by omega)
    exact rounds l0 hb0 (by omega) t et t0 (t % 6).toNat k 0 [] (by omega) (by omega) rfl (by omega) (by simp)
  simp only [e, impl_AppendBytes_eq (show 100 ≤ K by omega) b s (by omega) (by omega), impl_ReadBytes_eq (show 100 ≤ K by omega) _ hx (show _ ≤ 1000000000 by omega), w64 (n := (s.length : Int) - 1) (by omega) (by omega), e3, e4, h5, Option.bind_some]
  simp only [↓reduceIte, hj]
end KFnByteStrings
theorem FnByteStrings : laws_FnByteStrings.Pure := KFnByteStrings.proved
end Go.Proofs.Ytipdmghnabchaaa.Pure
