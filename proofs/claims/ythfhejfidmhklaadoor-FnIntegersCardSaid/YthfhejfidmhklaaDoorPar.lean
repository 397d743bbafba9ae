/- The reference's ParseInt answers what impl.ParseInt answers, for every string of at most 2^48 bytes. -/
import Derived.Test.YthfhejfidmhklaaDoorFmtP
set_option linter.unusedVariables false
set_option linter.unusedSimpArgs false
namespace Go.Proofs.YthfhejfidmhklaaDoor.Par
open Go.RowKit Go.Proofs.YthfhejfidmhklaaDoor.PFnExactParseInt Go.Proofs.YthfhejfidmhklaaDoorW.PrintWords Go.Proofs.YthfhejfidmhklaaDoorW.PrintLast
open Go.Proofs.YthfhejfidmhklaaDoor.FmtP (w64 spec_FormatInt_eq)

/-! ### digits and their value -/
theorem u8 {d : Nat} (h : d < 10) : (UInt8.ofNat (48 + d)).toNat = 48 + d := by
  rw [UInt8.toNat_ofNat']; omega
theorem digit_mem : ∀ (n : Nat) (c : UInt8), c ∈ Lib.decDigits n → 48 ≤ c.toNat ∧ c.toNat ≤ 57 := by
  intro n
  induction n using Nat.strongRecOn with
  | _ n ih =>
    intro c hc
    rw [Lib.decDigits] at hc
    split at hc
    · rw [List.mem_singleton] at hc
      subst hc
      rw [u8 (by omega)]; omega
    · rw [List.mem_append, List.mem_singleton] at hc
      rcases hc with hc | rfl
      · exact ih (n / 10) (by omega) c hc
      · rw [u8 (by omega)]; omega
theorem parse_snoc (c : UInt8) (h0 : 48 ≤ c.toNat) (h1 : c.toNat ≤ 57) : ∀ (l : List UInt8) (a u : Nat), Lib.parseUint10 a l = .ok u → u < 1844674407370955160 → Lib.parseUint10 a (l ++ [c]) = .ok (u * 10 + (c.toNat - 48)) := by
  intro l
  induction l with
  | nil =>
    intro a u h hu
    simp only [Lib.parseUint10] at h
    obtain rfl : a = u := by simpa using h
    simp only [List.nil_append, Lib.parseUint10]
    rw [if_pos ⟨h0, h1⟩, if_neg (by omega), if_neg (by omega)]
  | cons b l ih =>
    intro a u h hu
    rw [List.cons_append]
    simp only [Lib.parseUint10] at h ⊢
    split at h
    · rename_i hb
      rw [if_pos hb]
      split at h
      · cases h
      · rename_i h2
        rw [if_neg h2]
        split at h
        · cases h
        · rename_i h3
          rw [if_neg h3]
          exact ih _ _ h hu
    · cases h
theorem parse_digits : ∀ n : Nat, n < 1844674407370955160 → Lib.parseUint10 0 (Lib.decDigits n) = .ok n := by
  intro n
  induction n using Nat.strongRecOn with
  | _ n ih =>
    intro hn
    rw [Lib.decDigits]
    split
    · rename_i h
      have := parse_snoc (UInt8.ofNat (48 + n)) (by rw [u8 h]; omega) (by rw [u8 h]; omega) [] 0 0 rfl (by omega)
      rw [u8 h, List.nil_append] at this
      rw [this]; congr 1; omega
    · rename_i h
      have := parse_snoc (UInt8.ofNat (48 + n % 10)) (by rw [u8 (by omega)]; omega) (by rw [u8 (by omega)]; omega) (Lib.decDigits (n / 10)) 0 (n / 10) (ih (n / 10) (by omega) (by omega)) (by omega)
      rw [u8 (by omega)] at this
      rw [this]; congr 1; omega
theorem atoi_digits (n : Nat) (hn : n ≤ 1000000000000) : Lib.atoiAll (Lib.decDigits n) = .ok (n : Int) := by
  have hp := parse_digits n (by omega)
  have hne : Lib.decDigits n ≠ [] := by rw [Lib.decDigits]; split <;> simp
  have hd := digit_mem n
  generalize Lib.decDigits n = l at *
  cases l with
  | nil => exact absurd rfl hne
  | cons c r =>
    have hc := hd c (List.mem_cons_self ..)
    simp only [Lib.atoiAll]
    rw [if_neg (by omega)]
    unfold Lib.parseMag
    rw [if_neg hne, hp]
    simp only []
    rw [if_neg (by omega), if_neg (by omega), if_neg (by omega)]
theorem pInt_itoa (n : Nat) (hn : n ≤ 1000000000000) : pInt (itoaS n) = ((n : Int), true) := by
  have e : (itoaS n).data.toList = Lib.decDigits n := by unfold itoaS; rw [Lib.itoa_nonneg]
  unfold pInt
  rw [e, atoi_digits n hn]
  simp only []
  rw [if_neg (by omega), if_neg (by omega)]
  simp
theorem str_inj {a b : ByteArray} (h : a.toList = b.toList) : a = b := by
  rw [ByteArray.toList_eq, ByteArray.toList_eq] at h
  exact WideShapes.bytes_inj h
theorem pInt_other (s : ByteArray) (h : ∀ n : Nat, n ≤ 1000000000000 → s ≠ itoaS n) : pInt s = (0, false) := by
  unfold pInt
  cases ha : Lib.atoiAll s.data.toList
  · rename_i v
    simp only []
    split
    · rfl
    split
    · rfl
    rename_i h0 h1
    split
    · rename_i h2
      obtain ⟨n, rfl⟩ := Int.eq_ofNat_of_zero_le (show 0 ≤ v by omega)
      exact absurd (str_inj h2).symm (h n (by omega))
    · rfl
  · rfl
  · rfl

/-! ### the reference's loop -/
theorem In_eq (a b c : Int) : spec_l1In.f a b c = some (decide (b ≤ a ∧ a ≤ c)) := by
  unfold spec_l1In.f
  split
  · congr 1; simp; omega
  · congr 1; simp; omega
theorem loop_any (s : ByteArray) (hs : s.size ≤ 13) : ∀ (d i n k : Nat), i + d = s.size → n < 10 ^ i → d + 9223372036854775811 ≤ k →
    spec_ParseInt.l0 k s (n : Int) (i : Int) = some (0, false) ∨ ∃ m : Nat, m ≤ 1000000000000 ∧ s = itoaS m ∧ spec_ParseInt.l0 k s (n : Int) (i : Int) = some ((m : Int), true) := by
  intro d
  induction d with
  | zero =>
    intro i n k hi hn hk
    obtain ⟨k, rfl⟩ : ∃ j, k = j + 1 := ⟨k - 1, by omega⟩
    simp only [spec_ParseInt.l0]
    rw [if_neg (by omega)]
    split
    · exact .inl rfl
    · rename_i h
      rw [spec_FormatInt_eq (by omega) (by omega) (by omega)]
      simp only [Option.bind_some]
      split
      · rename_i h2
        exact .inr ⟨n, by omega, (str_inj h2).symm, rfl⟩
      · exact .inl rfl
  | succ d ih =>
    intro i n k hi hn hk
    obtain ⟨k, rfl⟩ : ∃ j, k = j + 1 := ⟨k - 1, by omega⟩
    simp only [spec_ParseInt.l0]
    have hb := bt_range s (i : Int)
    generalize bt s (i : Int) = b at *
    have hp : (10 : Nat) ^ (i + 1) = 10 * 10 ^ i := by rw [Nat.pow_succ, Nat.mul_comm]
    have hp13 : (10 : Nat) ^ (i + 1) ≤ 10 ^ 13 := Nat.pow_le_pow_right (by omega) (by omega)
    have hp14 : (10 : Nat) ^ 13 = 10000000000000 := by decide
    rw [hp14] at hp13
    rw [if_pos (by omega), if_pos (by omega), w64 (n := b) (by omega) (by omega), In_eq]
    simp only [Option.bind_some]
    by_cases hd : 48 ≤ b ∧ b ≤ 57
    · rw [decide_eq_true hd, if_pos rfl]
      have key : 10 * n + (b - 48).toNat < 10 ^ (i + 1) := by
        rw [hp]
        generalize (10 : Nat) ^ i = P at hn
        omega
      have ea : wrap64 (wrap64 (10 * (n : Int)) + (b - 48) % 256) = ((10 * n + (b - 48).toNat : Nat) : Int) := by
        generalize (10 : Nat) ^ (i + 1) = Q at key hp13
        rw [w64 (n := 10 * (n : Int)) (by omega) (by omega), w64 (by omega) (by omega)]; omega
      have ei : wrap64 ((i : Int) + 1) = ((i + 1 : Nat) : Int) := by rw [w64 (by omega) (by omega)]; omega
      rw [ea, ei]
      exact ih (i + 1) (10 * n + (b - 48).toNat) k (by omega) key (by omega)
    · rw [decide_eq_false hd, if_neg (by simp)]
      exact .inl rfl
theorem bt_str (l : List UInt8) (i : Nat) (h : i < l.length) : bt ⟨l.toArray⟩ (i : Int) = ((l[i]).toNat : Int) := by
  unfold bt
  rw [Int.toNat_natCast, dif_pos (show i < (⟨l.toArray⟩ : ByteArray).size by simpa [ByteArray.size] using h)]
  rfl
theorem digs_get (n i : Nat) (h : i < (Lib.decDigits n).length) : ((Lib.decDigits n)[i]).toNat = 48 + n / 10 ^ (Lib.nDigits n - 1 - i) % 10 := by
  have e := Lib.decDigits_eq n
  have : (Lib.decDigits n)[i] = Lib.dg n (Lib.nDigits n - 1 - i) := by
    rw [List.getElem_of_eq e h]; simp
  rw [this]
  unfold Lib.dg
  exact u8 (Nat.mod_lt _ (by omega))
theorem loop_digits (n : Nat) (hn : n ≤ 1000000000000) : ∀ (d i k : Nat), i + d = (Lib.decDigits n).length → d + 9223372036854775811 ≤ k →
    spec_ParseInt.l0 k (itoaS n) ((n / 10 ^ d : Nat) : Int) (i : Int) = some ((n : Int), true) := by
  have es : itoaS n = ⟨(Lib.decDigits n).toArray⟩ := by unfold itoaS; rw [Lib.itoa_nonneg]
  have esz : (itoaS n).size = (Lib.decDigits n).length := by rw [es]; simp [ByteArray.size]
  have hL := Lib.decDigits_length n
  have h21 := Lib.itoa_length_le n (by omega) (by omega)
  rw [Lib.itoa_nonneg] at h21
  intro d
  induction d with
  | zero =>
    intro i k hi hk
    obtain ⟨k, rfl⟩ : ∃ j, k = j + 1 := ⟨k - 1, by omega⟩
    simp only [spec_ParseInt.l0]
    rw [Nat.pow_zero, Nat.div_one, if_neg (by omega), if_neg (by omega), spec_FormatInt_eq (by omega) (by omega) (by omega)]
    simp only [Option.bind_some]
    rw [if_pos trivial]
  | succ d ih =>
    intro i k hi hk
    obtain ⟨k, rfl⟩ : ∃ j, k = j + 1 := ⟨k - 1, by omega⟩
    have hg := digs_get n i (by omega)
    rw [show Lib.nDigits n - 1 - i = d by omega] at hg
    have hb : bt (itoaS n) (i : Int) = 48 + ((n / 10 ^ d % 10 : Nat) : Int) := by
      rw [es, bt_str _ i (by omega), hg]; omega
    have hq : n / 10 ^ (d + 1) = n / 10 ^ d / 10 := by rw [Nat.pow_succ, Nat.div_div_eq_div_mul]
    have hqn : n / 10 ^ d ≤ n := Nat.div_le_self _ _
    simp only [spec_ParseInt.l0]
    rw [hb, hq, if_pos (by omega), if_pos (by omega)]
    have ih2 := ih (i + 1) k (by omega) (by omega)
    generalize n / 10 ^ d = q at *
    rw [w64 (n := 48 + _) (by omega) (by omega), In_eq]
    simp only [Option.bind_some]
    rw [decide_eq_true (by omega), if_pos rfl]
    have ea : wrap64 (wrap64 (10 * ((q / 10 : Nat) : Int)) + (48 + ((q % 10 : Nat) : Int) - 48) % 256) = (q : Int) := by
      rw [w64 (n := 10 * _) (by omega) (by omega), w64 (by omega) (by omega)]; omega
    have ei : wrap64 ((i : Int) + 1) = ((i + 1 : Nat) : Int) := by rw [w64 (by omega) (by omega)]; omega
    rw [ea, ei]
    exact ih2
theorem nDigits_13 (n : Nat) (hn : n ≤ 1000000000000) : 1 ≤ (Lib.decDigits n).length ∧ (Lib.decDigits n).length ≤ 13 := by
  have h : ∀ (e n : Nat), n < 10 ^ (e + 1) → 1 ≤ (Lib.decDigits n).length ∧ (Lib.decDigits n).length ≤ e + 1 := by
    intro e
    induction e with
    | zero =>
      intro n hn
      rw [Lib.decDigits, dif_pos (by simpa using hn)]
      simp
    | succ e ih =>
      intro n hn
      rw [Lib.decDigits]
      split
      · simp
      · rename_i h
        have := ih (n / 10) (by rw [Nat.pow_succ] at hn; exact Nat.div_lt_of_lt_mul (by rw [Nat.mul_comm]; exact hn))
        rw [List.length_append, List.length_singleton]
        omega
  exact h 12 n (Nat.lt_of_le_of_lt hn (by decide))
theorem spec_ParseInt_eq {k : Nat} (hk : 9223372036854775911 ≤ k) (s : ByteArray) (hs : s.size ≤ 281474976710656) : spec_ParseInt.f k s = some (pInt s) := by
  unfold spec_ParseInt.f
  rw [In_eq]
  simp only [Option.bind_some]
  by_cases h : ∃ n : Nat, n ≤ 1000000000000 ∧ s = itoaS n
  · obtain ⟨n, hn, rfl⟩ := h
    have esz : (itoaS n).size = (Lib.decDigits n).length := by unfold itoaS; rw [Lib.itoa_nonneg]; simp [ByteArray.size]
    obtain ⟨l1, l13⟩ := nDigits_13 n hn
    rw [decide_eq_true (by omega), if_pos rfl, pInt_itoa n hn]
    have := loop_digits n hn (Lib.decDigits n).length 0 k (by omega) (by omega)
    have hz : n / 10 ^ (Lib.decDigits n).length = 0 := by
      apply Nat.div_eq_of_lt
      have h1 : ∀ m : Nat, m < 10 ^ (Lib.decDigits m).length := by
        intro m
        induction m using Nat.strongRecOn with
        | _ m ih =>
          rw [Lib.decDigits]
          split
          · simpa using ‹m < 10›
          · rename_i h
            have := ih (m / 10) (by omega)
            rw [List.length_append, List.length_singleton, Nat.pow_succ]
            generalize (10 : Nat) ^ (Lib.decDigits (m / 10)).length = P at *
            omega
      exact h1 n
    rw [hz] at this
    exact this
  · have hno : ∀ n : Nat, n ≤ 1000000000000 → s ≠ itoaS n := fun n hn e => h ⟨n, hn, e⟩
    rw [pInt_other s hno]
    by_cases hl : 1 ≤ (s.size : Int) ∧ (s.size : Int) ≤ 13
    · rw [decide_eq_true hl, if_pos rfl]
      rcases loop_any s (by omega) s.size 0 0 k (by omega) (by simp) (by omega) with h1 | ⟨m, hm, he, _⟩
      · exact h1
      · exact absurd he (hno m hm)
    · rw [decide_eq_false hl, if_neg (by simp)]
end Go.Proofs.YthfhejfidmhklaaDoor.Par
