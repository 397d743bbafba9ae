/- The law on integers, in plain Lean: what is parsed is the decimal form; CeilDiv and Mod satisfy their inequalities. -/
import Derived.Test.YthfhejfidmhklaaDoorPFnIntegersx5
import Derived.Test.YthfhejfidmhklaaDoorFmtI
import Derived.Test.YthfhejfidmhklaaDoorPar
import Derived.Test.YthfhejfidmhklaaDoorNum
set_option linter.unusedVariables false
set_option linter.unusedSimpArgs false
namespace Go.Proofs.YthfhejfidmhklaaDoor.Ints
open Go.RowKit Go.Proofs.YthfhejfidmhklaaDoor.PFnIntegers Go.Proofs.YthfhejfidmhklaaDoorW.PrintWords Go.Proofs.YthfhejfidmhklaaDoorW.PrintLast Go.Proofs.YthfhejfidmhklaaDoor.Num
open Go.Proofs.YthfhejfidmhklaaDoor.FmtI (spec_FormatInt_eq)
open Go.Proofs.YthfhejfidmhklaaDoor.Par (u8 digit_mem pInt_itoa pInt_other str_inj)

theorem laws_big_eq (l : List Int) : laws_big.f l = some (decide ((l.length : Int) > 1048576)) := rfl

theorem spec_l1New_l0 (l : List Int) (hl : l.length ≤ 4611686018427387904) : ∀ (j k i : Nat) (h : Int), l.length - i ≤ j → j < k → ∃ h', spec_l1New.l0 k l h (i : Int) = some (l, 0, h') := by
  intro j
  induction j with
  | zero =>
    intro k i h hi hk
    obtain ⟨k, rfl⟩ : ∃ m, k = m + 1 := ⟨k - 1, by omega⟩
    simp only [spec_l1New.l0]
    rw [if_neg (by omega)]; exact ⟨_, rfl⟩
  | succ j ih =>
    intro k i h hi hk
    obtain ⟨k, rfl⟩ : ∃ m, k = m + 1 := ⟨k - 1, by omega⟩
    simp only [spec_l1New.l0]
    by_cases h1 : (i : Int) < (l.length : Int)
    · rw [if_pos h1]
      by_cases h2 : (i : Int) < 4000
      · rw [if_pos h2, if_pos (by omega), nxt (by omega)]
        exact ih k (i + 1) _ (by omega) (by omega)
      · rw [if_neg h2]; exact ⟨_, rfl⟩
    · rw [if_neg h1]; exact ⟨_, rfl⟩
theorem spec_l1New_ok {k : Nat} (l : List Int) (hl : l.length ≤ 4611686018427387904) (hk : l.length < k) : ∃ h, spec_l1New.f k l = some (l, 0, h) := by
  unfold spec_l1New.f
  exact spec_l1New_l0 l hl l.length k 0 _ (by omega) hk

theorem spec_l1Byte_ok (l : List Int) (i h : Int) (hi : 0 ≤ i) (hl : l.length ≤ 4611686018427387904) : ∃ v i' h', spec_l1Byte.f l i h = some (v, i', h') ∧ 0 ≤ i' ∧ 0 ≤ v ∧ v ≤ 255 := by
  unfold spec_l1Byte.f
  by_cases h1 : i < (l.length : Int)
  · rw [if_pos h1, if_pos hi, w64 (n := i + 1) (by omega) (by omega)]
    exact ⟨_, _, _, rfl, by omega, (and255_range _).1, (and255_range _).2⟩
  · rw [if_neg h1]
    exact ⟨_, _, _, rfl, hi, (and255_range _).1, (and255_range _).2⟩

theorem spec_l1Below_ok (l : List Int) (i h n : Int) (hi : 0 ≤ i) (hl : l.length ≤ 4611686018427387904) : ∃ v i' h', spec_l1Below.f l i h n = some (v, i', h') ∧ 0 ≤ i' ∧ 0 ≤ v ∧ v ≤ 16777215 ∧ (0 < n → v < n) ∧ (n ≤ 0 → v = 0) := by
  unfold spec_l1Below.f
  by_cases h0 : n ≤ 0
  · rw [if_pos h0]; exact ⟨_, _, _, rfl, hi, by omega, by omega, by omega, by omega⟩
  rw [if_neg h0]
  by_cases h1 : n ≤ 256
  · rw [if_pos h1]
    obtain ⟨v, i1, g1, e, h2, h3, h4⟩ := spec_l1Byte_ok l i h hi hl
    rw [e]; simp only [Option.bind_some]
    rw [if_neg (by omega), Int.tmod_eq_emod_of_nonneg h3]
    have r0 : 0 ≤ v % n := Int.emod_nonneg _ (by omega)
    have r1 : v % n < n := Int.emod_lt_of_pos _ (by omega)
    exact ⟨_, _, _, rfl, h2, r0, by omega, fun _ => r1, by omega⟩
  · rw [if_neg h1]
    obtain ⟨v1, i1, g1, e1, a1, b1, c1⟩ := spec_l1Byte_ok l i h hi hl
    rw [e1]; simp only [Option.bind_some]
    obtain ⟨v2, i2, g2, e2, a2, b2, c2⟩ := spec_l1Byte_ok l i1 g1 a1 hl
    rw [e2]; simp only [Option.bind_some]
    obtain ⟨v3, i3, g3, e3, a3, b3, c3⟩ := spec_l1Byte_ok l i2 g2 a2 hl
    rw [e3]; simp only [Option.bind_some]
    rw [if_neg (by omega), w64 (n := v1 * 65536) (by omega) (by omega), w64 (n := v2 * 256) (by omega) (by omega), w64 (n := v1 * 65536 + v2 * 256) (by omega) (by omega), w64 (by omega) (by omega), Int.tmod_eq_emod_of_nonneg (by omega)]
    have r0 : 0 ≤ (v1 * 65536 + v2 * 256 + v3) % n := Int.emod_nonneg _ (by omega)
    have r1 : (v1 * 65536 + v2 * 256 + v3) % n < n := Int.emod_lt_of_pos _ (by omega)
    have r2 : (v1 * 65536 + v2 * 256 + v3) % n ≤ v1 * 65536 + v2 * 256 + v3 := by
      by_cases hlt : v1 * 65536 + v2 * 256 + v3 < n
      · rw [Int.emod_eq_of_lt (by omega) hlt]; omega
      · omega
    exact ⟨_, _, _, rfl, a3, r0, by omega, fun _ => r1, by omega⟩

theorem spec_l1Once_ok (l : List Int) (i h n : Int) (hi : 0 ≤ i) (hl : l.length ≤ 4611686018427387904) : ∃ v i' h', spec_l1Once.f l i h n = some (v, i', h') ∧ 0 ≤ i' := by
  unfold spec_l1Once.f
  obtain ⟨v, i1, g1, e, h2, _⟩ := spec_l1Below_ok l i h n hi hl
  rw [e]; simp only [Option.bind_some]
  exact ⟨_, _, _, rfl, h2⟩

theorem spec_l1Str_ok (l : List Int) (i h : Int) (s : List ByteArray) (hs : 0 < s.length) (hi : 0 ≤ i) (hl : l.length ≤ 4611686018427387904) (hl2 : s.length ≤ 1000) : ∃ v i' h', spec_l1Str.f l i h s = some (v, i', h') ∧ 0 ≤ i' ∧ v ∈ s := by
  unfold spec_l1Str.f
  obtain ⟨v, i1, g1, e, h2, h3, h4, h5, h6⟩ := spec_l1Below_ok l i h (s.length : Int) hi hl
  rw [e]; simp only [Option.bind_some]
  have h7 := h5 (by omega)
  obtain ⟨j, rfl⟩ := Int.eq_ofNat_of_zero_le h3
  have hj : j < s.length := by omega
  have er : rdOf ByteArray.empty s (j : Int) = s[j] := by
    unfold rdOf
    simp [List.getD_eq_getElem?_getD, hj]
  rw [if_pos h3, if_pos h7, er]
  exact ⟨_, _, _, rfl, h2, List.getElem_mem _⟩

theorem spec_l1Int_ok (l : List Int) (i h : Int) (s : List Int) (hs : 0 < s.length) (hi : 0 ≤ i) (hl : l.length ≤ 4611686018427387904) : ∃ v i' h', spec_l1Int.f l i h s = some (v, i', h') ∧ 0 ≤ i' ∧ v ∈ s := by
  unfold spec_l1Int.f
  obtain ⟨v, i1, g1, e, h2, h3, h4, h5, h6⟩ := spec_l1Below_ok l i h (s.length : Int) hi hl
  rw [e]; simp only [Option.bind_some]
  have h7 := h5 (by omega)
  obtain ⟨j, rfl⟩ := Int.eq_ofNat_of_zero_le h3
  rw [if_pos h3, if_pos h7, rd_at (show j < s.length by omega)]
  exact ⟨_, _, _, rfl, h2, List.getElem_mem _⟩

theorem impl_Mod_eq {k : Nat} (hk : 0 < k) (a m : Int) (h1 : 1 ≤ m) (h2 : m ≤ 1000000000000) : impl_Mod.f k a m = some (a % m) := by
  obtain ⟨k, rfl⟩ : ∃ j, k = j + 1 := ⟨k - 1, by omega⟩
  unfold impl_Mod.f
  rw [if_neg (by omega)]
  simp only [impl_Mod.j0]
  rw [if_neg (by simp; omega), if_neg (by omega), tmod_two a m h1 h2]
theorem impl_Mod_out {k : Nat} (hk : 0 < k) (a m : Int) (h : ¬ (1 ≤ m ∧ m ≤ 1000000000000)) : impl_Mod.f k a m = some 0 := by
  obtain ⟨k, rfl⟩ : ∃ j, k = j + 1 := ⟨k - 1, by omega⟩
  unfold impl_Mod.f
  by_cases h1 : m < 1
  · rw [if_pos h1]
    simp only [impl_Mod.j0]
    rw [if_pos (by simp)]
  · rw [if_neg h1]
    simp only [impl_Mod.j0]
    rw [if_pos (by simp; omega)]

theorem spec_l1Num_ok (l : List Int) (i h : Int) (hi : 0 ≤ i) (hl : l.length ≤ 4611686018427387904) : ∃ v i' h', spec_l1Num.f l i h = some (v, i', h') ∧ 0 ≤ i' ∧ -9223372036854775808 ≤ v ∧ v ≤ 9223372036854775807 := by
  unfold spec_l1Num.f
  obtain ⟨v0, i0, g0, e0, h0, _⟩ := spec_l1Below_ok l i h 4 hi hl
  rw [e0]; simp only [Option.bind_some]
  by_cases c0 : v0 = 0
  · obtain ⟨v1, i1, g1, e1, h1, r0, r1, _⟩ := spec_l1Below_ok l i0 g0 2000 h0 hl
    rw [if_pos c0, e1]; simp only [Option.bind_some]
    exact ⟨_, _, _, rfl, h1, by omega, by omega⟩
  rw [if_neg c0]
  by_cases c1 : v0 = 1
  · obtain ⟨v1, i1, g1, e1, h1, m1⟩ := spec_l1Int_ok l i0 g0 [0, 1, 127, 128, 2147483646, 2147483647, 1000000000000] (by simp) h0 hl
    rw [if_pos c1, e1]; simp only [Option.bind_some]
    simp only [List.mem_cons, List.not_mem_nil, or_false] at m1
    exact ⟨_, _, _, rfl, h1, by omega, by omega⟩
  rw [if_neg c1]
  by_cases c2 : v0 = 2
  · obtain ⟨v1, i1, g1, e1, h1, _⟩ := spec_l1Below_ok l i0 g0 1000000 h0 hl
    rw [if_pos c2, e1]; simp only [Option.bind_some]
    obtain ⟨v2, i2, g2, e2, h2, _⟩ := spec_l1Below_ok l i1 g1 1000000 h1 hl
    rw [e2]; simp only [Option.bind_some]
    exact ⟨_, _, _, rfl, h2, wrap64_range _⟩
  rw [if_neg c2]
  obtain ⟨v1, i1, g1, e1, h1, r0, r1, _⟩ := spec_l1Below_ok l i0 g0 20 h0 hl
  rw [e1]; simp only [Option.bind_some]
  exact ⟨_, _, _, rfl, h1, by omega, by omega⟩

theorem spec_l1Odd_ok (l : List Int) (i h : Int) (hi : 0 ≤ i) (hl : l.length ≤ 4611686018427387904) : ∃ v i' h', spec_l1Odd.f l i h = some (v, i', h') ∧ 0 ≤ i' ∧ -9223372036854775808 ≤ v ∧ v ≤ 9223372036854775807 := by
  unfold spec_l1Odd.f
  obtain ⟨v1, i1, g1, e1, h1, m1⟩ := spec_l1Int_ok l i h [(-1), 0, 1, 2, 255, 256, 65535, 2147483647, 2147483648, 4294967295, 4294967296, (-2147483648), 9223372036854775807, (-9223372036854775808)] (by simp) hi hl
  rw [e1]; simp only [Option.bind_some]
  simp only [List.mem_cons, List.not_mem_nil, or_false] at m1
  exact ⟨_, _, _, rfl, h1, by omega, by omega⟩

theorem spec_l1Raw_ok (l : List Int) (i h : Int) (hi : 0 ≤ i) (hl : l.length ≤ 4611686018427387904) : ∃ v i' h', spec_l1Raw.f l i h = some (v, i', h') ∧ 0 ≤ i' ∧ -9223372036854775808 ≤ v ∧ v ≤ 9223372036854775807 := by
  unfold spec_l1Raw.f
  obtain ⟨v, i0, g0, e0, h0⟩ := spec_l1Once_ok l i h 2 hi hl
  rw [e0]; simp only [Option.bind_some]
  cases v with
  | true =>
    obtain ⟨v1, i1, g1, e1, h1, r1⟩ := spec_l1Odd_ok l i0 g0 h0 hl
    rw [if_pos (by simp), e1]; simp only [Option.bind_some]
    exact ⟨_, _, _, rfl, h1, r1⟩
  | false =>
    obtain ⟨v1, i1, g1, e1, h1, m1⟩ := spec_l1Int_ok l i0 g0 [(-1), 1000000000000, 1000000000001] (by simp) h0 hl
    rw [if_neg (by simp), e1]; simp only [Option.bind_some]
    simp only [List.mem_cons, List.not_mem_nil, or_false] at m1
    exact ⟨_, _, _, rfl, h1, by omega, by omega⟩

theorem spec_l1One_ok (l : List Int) (i h : Int) (hi : 0 ≤ i) (hl : l.length ≤ 4611686018427387904) : ∃ v i' h', spec_l1One.f l i h = some (v, i', h') ∧ 0 ≤ i' ∧ -9223372036854775808 ≤ v ∧ v ≤ 9223372036854775807 := by
  unfold spec_l1One.f
  obtain ⟨v, i0, g0, e0, h0⟩ := spec_l1Once_ok l i h 6 hi hl
  rw [e0]; simp only [Option.bind_some]
  cases v with
  | true =>
    obtain ⟨v1, i1, g1, e1, h1, r1⟩ := spec_l1Raw_ok l i0 g0 h0 hl
    rw [if_pos (by simp), e1]; simp only [Option.bind_some]
    exact ⟨_, _, _, rfl, h1, r1⟩
  | false =>
    obtain ⟨v1, i1, g1, e1, h1, r1⟩ := spec_l1Num_ok l i0 g0 h0 hl
    rw [if_neg (by simp), e1]; simp only [Option.bind_some]
    exact ⟨_, _, _, rfl, h1, r1⟩

/-! ### what is drawn -/
theorem DrawParseInt_ok {k : Nat} (l : List Int) (hl : l.length ≤ 1048576) (hk : 9223372036854775911 ≤ k) : ∃ s, spec_DrawParseInt.f k l = some s ∧ s.size ≤ 1000 := by
  unfold spec_DrawParseInt.f
  obtain ⟨h, e⟩ := spec_l1New_ok (k := k) l (by omega) (by omega)
  rw [e]; simp only [Option.bind_some]
  obtain ⟨v, i0, g0, e0, h0⟩ := spec_l1Once_ok l 0 h 2 (by omega) (by omega)
  rw [e0]; simp only [Option.bind_some]
  cases v with
  | true =>
    rw [if_pos rfl]
    obtain ⟨v2, i2, g2, e2, h2, m2⟩ := spec_l1Str_ok l i0 g0 [(⟨#[]⟩ : ByteArray), (⟨#[48]⟩ : ByteArray), (⟨#[48, 48]⟩ : ByteArray), (⟨#[45, 49]⟩ : ByteArray), (⟨#[48, 49]⟩ : ByteArray), (⟨#[55]⟩ : ByteArray), (⟨#[49, 48, 48, 48, 48, 48, 48, 48, 48, 48, 48, 48, 48]⟩ : ByteArray), (⟨#[49, 48, 48, 48, 48, 48, 48, 48, 48, 48, 48, 48, 49]⟩ : ByteArray), (⟨#[57, 57, 57, 57, 57, 57, 57, 57, 57, 57, 57, 57, 57, 57]⟩ : ByteArray), (⟨#[49, 120]⟩ : ByteArray), (⟨#[32, 49]⟩ : ByteArray)] (by simp) h0 (by omega) (by simp)
    rw [e2]; simp only [Option.bind_some]
    refine ⟨_, rfl, ?_⟩
    simp only [List.mem_cons, List.not_mem_nil, or_false] at m2
    rcases m2 with rfl | rfl | rfl | rfl | rfl | rfl | rfl | rfl | rfl | rfl | rfl <;> decide
  | false =>
    rw [if_neg (by simp)]
    obtain ⟨v2, i2, g2, e2, h2, r2⟩ := spec_l1Num_ok l i0 g0 h0 (by omega)
    rw [e2]; simp only [Option.bind_some]
    rw [spec_FormatInt_eq (by omega) r2.1 r2.2]; simp only [Option.bind_some]
    refine ⟨_, rfl, ?_⟩
    have := Lib.itoa_length_le v2 r2.1 r2.2
    unfold itoaS
    simp [ByteArray.size]; omega
theorem DrawFormatInt_ok {k : Nat} (l : List Int) (hl : l.length ≤ 1048576) (hk : 9223372036854775911 ≤ k) : ∃ m, spec_DrawFormatInt.f k l = some m ∧ -9223372036854775808 ≤ m ∧ m ≤ 9223372036854775807 := by
  unfold spec_DrawFormatInt.f
  obtain ⟨h, e⟩ := spec_l1New_ok (k := k) l (by omega) (by omega)
  rw [e]; simp only [Option.bind_some]
  obtain ⟨v, i0, g0, e0, h0, r0⟩ := spec_l1One_ok l 0 h (by omega) (by omega)
  rw [e0]; simp only [Option.bind_some]
  exact ⟨_, rfl, r0⟩
theorem DrawCeilDiv_ok {k : Nat} (l : List Int) (hl : l.length ≤ 1048576) (hk : 9223372036854775911 ≤ k) : ∃ a b, spec_DrawCeilDiv.f k l = some (a, b) ∧ (-9223372036854775808 ≤ a ∧ a ≤ 9223372036854775807) ∧ (-9223372036854775808 ≤ b ∧ b ≤ 9223372036854775807) := by
  unfold spec_DrawCeilDiv.f
  obtain ⟨h, e⟩ := spec_l1New_ok (k := k) l (by omega) (by omega)
  rw [e]; simp only [Option.bind_some]
  obtain ⟨v, i0, g0, e0, h0, r0⟩ := spec_l1One_ok l 0 h (by omega) (by omega)
  rw [e0]; simp only [Option.bind_some]
  obtain ⟨v1, i1, g1, e1, h1, r1⟩ := spec_l1One_ok l i0 g0 h0 (by omega)
  rw [e1]; simp only [Option.bind_some]
  exact ⟨_, _, rfl, r0, r1⟩

/-! ### a numeral tells its number -/
def val (l : List UInt8) : Nat := l.foldl (fun a c => a * 10 + (c.toNat - 48)) 0
theorem val_digits : ∀ n : Nat, val (Lib.decDigits n) = n := by
  intro n
  induction n using Nat.strongRecOn with
  | _ n ih =>
    rw [Lib.decDigits]
    split
    · rename_i h
      unfold val
      simp only [List.foldl_cons, List.foldl_nil]
      rw [u8 h]; omega
    · rename_i h
      have := ih (n / 10) (by omega)
      unfold val at this ⊢
      rw [List.foldl_append, this]
      simp only [List.foldl_cons, List.foldl_nil]
      rw [u8 (by omega)]; omega
theorem itoaS_inj {m : Int} {n : Nat} (h : itoaS m = itoaS (n : Int)) : m = (n : Int) := by
  have h1 : Lib.itoa m = Lib.itoa (n : Int) := by
    have := congrArg (fun s => s.data.toList) h
    simpa [itoaS] using this
  rw [Lib.itoa_nonneg] at h1
  by_cases hm : m < 0
  · unfold Lib.itoa at h1
    rw [if_pos hm] at h1
    have := digit_mem n 45 (by rw [← h1]; exact List.mem_cons_self ..)
    exact absurd this.1 (by decide)
  · obtain ⟨j, rfl⟩ := Int.eq_ofNat_of_zero_le (show 0 ≤ m by omega)
    rw [Lib.itoa_nonneg] at h1
    have := congrArg val h1
    rw [val_digits, val_digits] at this
    omega
theorem pInt_back (m : Int) : pInt (itoaS m) = if 0 ≤ m ∧ m ≤ 1000000000000 then (m, true) else (0, false) := by
  split
  · rename_i h
    obtain ⟨j, rfl⟩ := Int.eq_ofNat_of_zero_le h.1
    exact pInt_itoa j (by omega)
  · rename_i h
    refine pInt_other _ (fun n hn e => h ?_)
    have := itoaS_inj e
    omega
theorem pInt_cases (s : ByteArray) : pInt s = (0, false) ∨ ∃ n : Nat, n ≤ 1000000000000 ∧ s = itoaS n ∧ pInt s = ((n : Int), true) := by
  by_cases h : ∃ n : Nat, n ≤ 1000000000000 ∧ s = itoaS n
  · obtain ⟨n, hn, rfl⟩ := h
    exact .inr ⟨n, hn, rfl, pInt_itoa n hn⟩
  · exact .inl (pInt_other s (fun n hn e => h ⟨n, hn, e⟩))

/-! ### division and remainder -/
theorem tmod_cases (a m : Int) (h1 : 1 ≤ m) : Int.tmod a m = a % m ∨ Int.tmod a m = a % m - m := by
  have h2 : (Int.tmod a m).natAbs = a.natAbs % m.natAbs := Int.natAbs_tmod a m
  have h3 : a.natAbs % m.natAbs < m.natAbs := Nat.mod_lt _ (by omega)
  have e0 : 0 ≤ a % m := Int.emod_nonneg _ (by omega)
  have e1 : a % m < m := Int.emod_lt_of_pos _ (by omega)
  have d1 : m * Int.tdiv a m + Int.tmod a m = a := Int.mul_tdiv_add_tmod a m
  have d2 : m * (a / m) + a % m = a := Int.mul_ediv_add_emod a m
  have d3 : m * (Int.tdiv a m - a / m) = a % m - Int.tmod a m := by rw [Int.mul_sub]; omega
  generalize Int.tdiv a m - a / m = q at d3
  have q0 : -1 < q := by
    apply Int.lt_of_not_ge
    intro hq
    have := Int.mul_le_mul_of_nonneg_left hq (show 0 ≤ m by omega)
    omega
  have q1 : q < 2 := by
    apply Int.lt_of_not_ge
    intro hq
    have := Int.mul_le_mul_of_nonneg_left hq (show 0 ≤ m by omega)
    omega
  have : q = 0 ∨ q = 1 := by omega
  rcases this with rfl | rfl
  · left; omega
  · right; omega
theorem CeilDiv_out {a b : Int} (h : a < 0 ∨ a > 1000000000000 ∨ b < 1 ∨ b > 1000000000000) : impl_CeilDiv.f a b = some 0 := by
  unfold impl_CeilDiv.f
  repeat (first | rfl | split)
  all_goals omega
theorem CeilDiv_in {a b : Int} (a0 : 0 ≤ a) (a1 : a ≤ 1000000000000) (b0 : 1 ≤ b) (b1 : b ≤ 1000000000000) : ∃ q, impl_CeilDiv.f a b = some q ∧ wrap64 (q * b) ≥ a ∧ wrap64 (wrap64 (q * b) - a) < b := by
  unfold impl_CeilDiv.f
  rw [if_neg (by omega), if_neg (by omega), if_neg (by omega), if_neg (by omega), if_neg (by omega), w64 (n := a + b) (by omega) (by omega), w64 (n := a + b - 1) (by omega) (by omega), Int.tdiv_eq_ediv_of_nonneg (by omega)]
  have d : b * ((a + b - 1) / b) + (a + b - 1) % b = a + b - 1 := Int.mul_ediv_add_emod _ _
  have e0 : 0 ≤ (a + b - 1) % b := Int.emod_nonneg _ (by omega)
  have e1 : (a + b - 1) % b < b := Int.emod_lt_of_pos _ (by omega)
  have q0 : 0 ≤ (a + b - 1) / b := Int.ediv_nonneg (by omega) (by omega)
  have q1 : (a + b - 1) / b ≤ a + b - 1 := Int.ediv_le_self _ (by omega)
  rw [w64 (n := (a + b - 1) / b) (by omega) (by omega)]
  refine ⟨_, rfl, ?_⟩
  rw [Int.mul_comm b] at d
  generalize (a + b - 1) / b * b = X at *
  generalize (a + b - 1) % b = Y at *
  generalize (a + b - 1) / b = Z at *
  rw [w64 (n := X) (by omega) (by omega), w64 (n := X - a) (by omega) (by omega)]
  omega

/-! ### the law's end -/
theorem tmod_zero (a b : Int) (h : 1 ≤ b) (hb : b ≤ 1000000000000) : (Int.tmod (wrap64 (Int.tmod a b - a % b)) b != 0) = false := by
  rcases tmod_cases a b h with e | e
  · rw [e, show a % b - a % b = 0 by omega, w64 (by omega) (by omega), Int.zero_tmod]; rfl
  · rw [e, show a % b - b - a % b = -b by omega, w64 (by omega) (by omega), Int.neg_tmod, Int.tmod_self]; rfl
theorem fin {k : Nat} (hk : 10 ≤ k) (a b : Int) : ∃ q r, impl_CeilDiv.f a b = some q ∧ impl_Mod.f k a b = some r ∧ laws_FnIntegers.j0 k a b q r false = some true := by
  obtain ⟨k, rfl⟩ : ∃ j, k = j + 1 + 1 + 1 := ⟨k - 3, by omega⟩
  by_cases hb : 1 ≤ b ∧ b ≤ 1000000000000
  · have hm := impl_Mod_eq (k := k + 1 + 1 + 1) (by omega) a b hb.1 hb.2
    have e0 : 0 ≤ a % b := Int.emod_nonneg _ (by omega)
    have e1 : a % b < b := Int.emod_lt_of_pos _ (by omega)
    have step : ∀ q, laws_FnIntegers.j0 (k + 1 + 1 + 1) a b q (a % b) false = laws_FnIntegers.j2 (k + 1) a b q false := by
      intro q
      simp only [laws_FnIntegers.j0]
      rw [if_neg (by simp), if_neg (by omega), decide_eq_false (by omega)]
      simp only [laws_FnIntegers.j1]
      rw [if_neg (by simp), if_neg (by omega), if_neg (by omega), if_neg (by omega), tmod_zero a b hb.1 hb.2]
    by_cases ha : 0 ≤ a ∧ a ≤ 1000000000000
    · obtain ⟨q, hq, h1, h2⟩ := CeilDiv_in ha.1 ha.2 hb.1 hb.2
      refine ⟨q, a % b, hq, hm, ?_⟩
      rw [step]
      simp only [laws_FnIntegers.j2]
      rw [if_neg (by simp), if_neg (by omega), if_neg (by omega), if_pos h1, decide_eq_true h2]
    · refine ⟨0, a % b, CeilDiv_out (by omega), hm, ?_⟩
      rw [step]
      simp only [laws_FnIntegers.j2]
      rw [if_neg (by simp)]
      by_cases ha0 : a < 0
      · rw [if_pos ha0]; rfl
      · rw [if_neg ha0, if_pos (by omega)]; rfl
  · refine ⟨0, 0, CeilDiv_out (by omega), impl_Mod_out (by omega) a b hb, ?_⟩
    simp only [laws_FnIntegers.j0]
    rw [if_neg (by simp)]
    by_cases hb0 : b < 1
    · rw [if_pos hb0]
      simp only [laws_FnIntegers.j1]
      rw [if_pos trivial, if_pos trivial]; rfl
    · rw [if_neg hb0, decide_eq_true (by omega)]
      simp only [laws_FnIntegers.j1]
      rw [if_pos trivial, if_pos trivial]; rfl
theorem proved : laws_FnIntegers.Pure := by
  intro l0 _ _ hb
  obtain ⟨K, hK⟩ : ∃ K : Nat, 9223372036854775911 ≤ K := ⟨_, Nat.le_refl _⟩
  refine ⟨K, ?_⟩
  unfold laws_FnIntegers.f
  rw [laws_big_eq]; simp only [Option.bind_some]
  by_cases hl : (l0.length : Int) > 1048576
  · rw [if_pos (by simpa using hl)]
  rw [if_neg (by simpa using hl)]
  obtain ⟨s, es, hs⟩ := DrawParseInt_ok l0 (by omega) hK
  obtain ⟨m, em, m0, m1⟩ := DrawFormatInt_ok l0 (by omega) hK
  obtain ⟨a, b, eab, _, _⟩ := DrawCeilDiv_ok l0 (by omega) hK
  obtain ⟨q, r, eq, er, ef⟩ := fin (k := K) (by omega) a b
  have ep : impl_ParseInt.f K s = some (pInt s) := by unfold impl_ParseInt.f; rw [if_pos (by omega)]
  have eF : impl_FormatInt.f K m = some (itoaS m) := by unfold impl_FormatInt.f; rw [if_pos ⟨m0, m1⟩]
  have hz : (itoaS m).size ≤ 281474976710656 := by
    have := Lib.itoa_length_le m m0 m1
    unfold itoaS
    simp [ByteArray.size]; omega
  have ep2 : impl_ParseInt.f K (itoaS m) = some (pInt (itoaS m)) := by unfold impl_ParseInt.f; rw [if_pos hz]
  rw [es]; simp only [Option.bind_some]
  rw [ep]; simp only [Option.bind_some]
  rw [em]; simp only [Option.bind_some]
  rw [eF]; simp only [Option.bind_some]
  rw [ep2]; simp only [Option.bind_some]
  rw [eab]; simp only [Option.bind_some]
  rw [eq]; simp only [Option.bind_some]
  rw [er]; simp only [Option.bind_some]
  have rest : (if m ≥ 0 then (if ((pInt (itoaS m)).2 != (decide (m ≤ 1000000000000))) = true then (laws_FnIntegers.j0 K a b q r true) else (if (pInt (itoaS m)).2 = true then (laws_FnIntegers.j0 K a b q r ((pInt (itoaS m)).1 != m)) else (laws_FnIntegers.j0 K a b q r false))) else (if ((pInt (itoaS m)).2 != false) = true then (laws_FnIntegers.j0 K a b q r true) else (if (pInt (itoaS m)).2 = true then (laws_FnIntegers.j0 K a b q r ((pInt (itoaS m)).1 != m)) else (laws_FnIntegers.j0 K a b q r false)))) = some true := by
    by_cases h0 : 0 ≤ m
    · rw [if_pos h0]
      by_cases h1 : m ≤ 1000000000000
      · have pb : pInt (itoaS m) = (m, true) := by rw [pInt_back, if_pos ⟨h0, h1⟩]
        rw [pb, decide_eq_true h1]
        simpa using ef
      · have pb : pInt (itoaS m) = (0, false) := by rw [pInt_back, if_neg (fun h => h1 h.2)]
        rw [pb, decide_eq_false h1]
        simpa using ef
    · have pb : pInt (itoaS m) = (0, false) := by rw [pInt_back, if_neg (fun h => h0 h.1)]
      rw [if_neg h0, pb]
      simpa using ef
  rcases pInt_cases s with h | ⟨n, hn, hsn, h⟩
  · rw [h, if_neg (by simp)]
    exact rest
  · have eF2 : impl_FormatInt.f K (n : Int) = some (itoaS n) := by unfold impl_FormatInt.f; rw [if_pos ⟨by omega, by omega⟩]
    rw [h, if_pos rfl]
    simp only []
    rw [eF2]; simp only [Option.bind_some]
    rw [hsn, if_pos rfl]
    exact rest
end Go.Proofs.YthfhejfidmhklaaDoor.Ints
