/- the program's LagrangeWeight answers as the reference's and leaves its arguments alone. -/
import Derived.Test.YtclfiaafeaocjaaPFnExactLagrangeWeightx2
import Derived.Test.YtclfiaafeaocjaaNum5
set_option linter.unusedVariables false
set_option linter.unusedSimpArgs false
namespace Go.Proofs.Ytclfiaafeaocjaa.Pure
open Go.RowKit Go.Proofs.Ytclfiaafeaocjaa.PFnExactLagrangeWeight Go.Proofs.YtclfiaafeaocjaaW.PrintWords Go.Proofs.YtclfiaafeaocjaaW.PrintLast Go.Proofs.Ytclfiaafeaocjaa.Num
namespace KFnExactLagrangeWeight
theorem spec_l1In_eq (a b c : Int) : spec_l1In.f a b c = some (decide (b ≤ a ∧ a ≤ c)) := by
  unfold spec_l1In.f
  by_cases h : b ≤ a
  · rw [if_pos h]; simp [h]
  · rw [if_neg (by omega)]; simp [h]
theorem spec_Mod_eq (a m : Int) (h1 : 1 ≤ m) (h2 : m ≤ 1000000000000) : spec_Mod.f a m = some (a % m) := by
  unfold spec_Mod.f
  rw [spec_l1In_eq]; simp only [Option.bind_some]
  rw [if_pos (by simp; omega), if_neg (by omega), tmod_fix h1 h2]
theorem spec_Mod_out (a m : Int) (h : ¬ (1 ≤ m ∧ m ≤ 1000000000000)) : spec_Mod.f a m = some 0 := by
  unfold spec_Mod.f
  rw [spec_l1In_eq]; simp only [Option.bind_some]
  rw [if_neg (by simpa using h)]
theorem spec_l5Mod_eq (a : Int) : spec_l5Mod.f a = some (a % 1019) := by
  unfold spec_l5Mod.f
  rw [spec_Mod_eq a 1019 (by omega) (by omega)]; rfl
theorem spec_InverseExponent_hit {v x : Nat} (hv : v < 1019) (hx : x < 1019) (h : x * v % 1019 = 1) : ∀ (d k m : Nat), v - m = d → m ≤ v → d < k → spec_InverseExponent.l0 k (x : Int) (m : Int) = some (v : Int) := by
  intro d
  induction d with
  | zero =>
    intro k m hd hm hk
    obtain ⟨k, rfl⟩ : ∃ j, k = j + 1 := ⟨k - 1, by omega⟩
    obtain rfl : m = v := by omega
    simp only [spec_InverseExponent.l0]
    have e : Int.tmod (wrap64 ((x : Int) * (m : Int))) 1019 = ((x * m % 1019 : Nat) : Int) := tmodmul (m := 1019) hx hv (by omega)
    rw [if_pos (by omega), e, h, if_pos (by simp)]
  | succ d ih =>
    intro k m hd hm hk
    obtain ⟨k, rfl⟩ : ∃ j, k = j + 1 := ⟨k - 1, by omega⟩
    simp only [spec_InverseExponent.l0]
    have e : Int.tmod (wrap64 ((x : Int) * (m : Int))) 1019 = ((x * m % 1019 : Nat) : Int) := tmodmul (m := 1019) hx (by omega) (by omega)
    have hne : x * m % 1019 ≠ 1 := fun h1 => by
      have := inv_unique (by omega) hv h1 h
      omega
    rw [if_pos (by omega), e, if_neg (by omega), nxt (by omega)]
    exact ih k (m + 1) (by omega) (by omega) (by omega)
theorem spec_InverseExponent_none : ∀ (d k m : Nat), 1019 - m = d → m ≤ 1019 → d < k → spec_InverseExponent.l0 k 0 (m : Int) = some 0 := by
  intro d
  induction d with
  | zero =>
    intro k m hd hm hk
    obtain ⟨k, rfl⟩ : ∃ j, k = j + 1 := ⟨k - 1, by omega⟩
    simp only [spec_InverseExponent.l0]
    rw [if_neg (by omega)]
  | succ d ih =>
    intro k m hd hm hk
    obtain ⟨k, rfl⟩ : ∃ j, k = j + 1 := ⟨k - 1, by omega⟩
    simp only [spec_InverseExponent.l0]
    rw [if_pos (by omega), Int.zero_mul, w64 (by omega) (by omega), if_neg (by decide), nxt (by omega)]
    exact ih k (m + 1) (by omega) (by omega) (by omega)
theorem spec_InverseExponent_eq {k : Nat} (hk : 1100 ≤ k) (n : Int) : spec_InverseExponent.f k n = some (IV n) := by
  unfold spec_InverseExponent.f
  rw [spec_Mod_eq n 1019 (by omega) (by omega)]; simp only [Option.bind_some]
  by_cases h : n % 1019 = 0
  · rw [h, IV_zero h]
    exact spec_InverseExponent_none 1018 k 1 (by omega) (by omega) (by omega)
  · have h1 := IV_mul h
    have h2 := IV_range n
    have h3 := IV_ne h
    have e : n % 1019 = (((n % 1019).toNat : Nat) : Int) := by omega
    have e2 : IV n = (((IV n).toNat : Nat) : Int) := by omega
    have := spec_InverseExponent_hit (v := (IV n).toNat) (x := (n % 1019).toNat) (by omega) (by omega) h1 ((IV n).toNat - 1) k 1 rfl (by omega) (by omega)
    rw [e, e2]
    exact this
theorem spec_LagrangeWeight_row (l : List Int) (i p w : Int) (a : Nat) (ha : a < l.length) (hl : l.length ≤ 1048576) : ∀ (n b k : Nat), b + n = a → spec_LagrangeWeight.l1 (k + n + 1) l i p w (a : Int) (b : Int) = if dr l a n b = true then some 0 else spec_LagrangeWeight.l1 (k + 1) l i p w (a : Int) (a : Int) := by
  intro n
  induction n with
  | zero =>
    intro b k hb
    obtain rfl : b = a := by omega
    simp [dr]
  | succ n ih =>
    intro b k hb
    obtain ⟨m, hm⟩ : ∃ m, m = k + n + 1 := ⟨_, rfl⟩
    have hih := ih (b + 1) k (by omega)
    rw [← hm] at hih
    rw [show k + (n + 1) + 1 = m + 1 by omega]
    conv => lhs; simp only [spec_LagrangeWeight.l1]
    rw [if_pos (by omega), if_pos (by omega), if_pos (by omega), spec_l5Mod_eq]; simp only [Option.bind_some]
    rw [if_pos (by omega), if_pos (by omega), spec_l5Mod_eq]; simp only [Option.bind_some]
    rw [nxt (by omega), hih]
    rw [show dr l a (n + 1) b = (gm l b == gm l a || dr l a n (b + 1)) from rfl]
    by_cases h : rd l (b : Int) % 1019 = rd l (a : Int) % 1019
    · rw [if_pos h, if_pos (by simp [gm, h])]
    · have e : (gm l b == gm l a) = false := by simpa [gm] using h
      rw [if_neg h, e, Bool.false_or]
theorem spec_LagrangeWeight_tail (l : List Int) (i p w : Int) (i0 : 0 ≤ i) (i1 : i < (l.length : Int)) (a : Nat) (ha : a < l.length) (hl : l.length ≤ 1048576) (w0 : 0 ≤ w) (w1 : w < 1019) (k : Nat) (hk : 2000 ≤ k) : spec_LagrangeWeight.l1 (k + 1) l i p w (a : Int) (a : Int) = spec_LagrangeWeight.l0 k l i p (if a = i.toNat then w else LS l p i.toNat a w) ((a + 1 : Nat) : Int) := by
  simp only [spec_LagrangeWeight.l1]
  rw [if_neg (by omega), nxt (by omega)]
  by_cases h : a = i.toNat
  · rw [if_pos (by omega), if_pos h]
  · rw [if_neg (by omega), if_neg h, spec_l5Mod_eq]; simp only [Option.bind_some]
    rw [if_pos (by omega), if_pos (by omega), spec_l5Mod_eq]; simp only [Option.bind_some]
    rw [spec_l5Mod_eq]; simp only [Option.bind_some]
    rw [if_pos (by omega), if_pos (by omega), spec_l5Mod_eq]; simp only [Option.bind_some]
    rw [spec_l5Mod_eq]; simp only [Option.bind_some]
    rw [spec_InverseExponent_eq (by omega), IV_mod]; simp only [Option.bind_some]
    have e : (i.toNat : Int) = i := by omega
    have h1 := gm_range l a
    have h2 := gm_range l i.toNat
    unfold gm at h1 h2
    rw [e] at h2
    rw [w64 (n := p % 1019 - rd l (a : Int) % 1019) (by omega) (by omega), w64 (n := rd l i % 1019 - rd l (a : Int) % 1019) (by omega) (by omega),
      step_go w0 w1 (Int.emod_nonneg _ (by omega)) (Int.emod_lt_of_pos _ (by omega)) (IV_range _).1 (IV_range _).2]
    unfold LS gm
    rw [e]
theorem spec_LagrangeWeight_l0 (l : List Int) (i p : Int) (i0 : 0 ≤ i) (i1 : i < (l.length : Int)) (hl : l.length ≤ 1048576) : ∀ (n j k : Nat) (w : Int), j + n = l.length → n * 2000000 + 3000 ≤ k → 0 ≤ w → w < 1019 → spec_LagrangeWeight.l0 k l i p w (j : Int) = some (if df l n j = true then 0 else LP l p i.toNat n j w) := by
  intro n
  induction n with
  | zero =>
    intro j k w hj hk w0 w1
    obtain ⟨k, rfl⟩ : ∃ m, k = m + 1 := ⟨k - 1, by omega⟩
    simp only [spec_LagrangeWeight.l0]
    rw [if_neg (by omega)]; simp [df, LP]
  | succ n ih =>
    intro j k w hj hk w0 w1
    rw [Nat.succ_mul] at hk
    generalize hq : n * 2000000 = q at hk
    obtain ⟨k, rfl⟩ : ∃ m, k = m + j + 1 + 1 := ⟨k - j - 2, by omega⟩
    have hk2 : q + 3000 ≤ k := by omega
    rw [← hq] at hk2
    simp only [spec_LagrangeWeight.l0]
    rw [if_pos (by omega), show ((0 : Int)) = ((0 : Nat) : Int) from rfl, spec_LagrangeWeight_row l i p w j (by omega) hl j 0 k (by omega)]
    rw [show df l (n + 1) j = (dr l j j 0 || df l n (j + 1)) from rfl]
    cases h : dr l j j 0 with
    | true => rw [if_pos rfl, if_pos (by simp)]; rfl
    | false =>
      have hr : 0 ≤ (if j = i.toNat then w else LS l p i.toNat j w) ∧ (if j = i.toNat then w else LS l p i.toNat j w) < 1019 := by
        split
        · exact ⟨w0, w1⟩
        · exact LS_range l p _ j w
      rw [if_neg (by simp), spec_LagrangeWeight_tail l i p w i0 i1 j (by omega) hl w0 w1 k (Nat.le_trans (by omega) hk2), ih (j + 1) k _ (by omega) hk2 hr.1 hr.2, Bool.false_or]
      simp only [LP]; rfl
theorem spec_LagrangeWeight_eq {k : Nat} (hk : 5000000000000 ≤ k) (l : List Int) (hl : l.length ≤ 1048576) (i p : Int) : spec_LagrangeWeight.f k l i p = some (LW l i p) := by
  unfold spec_LagrangeWeight.f LW
  rw [w64 (by omega) (by omega), spec_l1In_eq]; simp only [Option.bind_some]
  by_cases h : 0 ≤ i ∧ i < (l.length : Int)
  · rw [if_pos (by simp; omega), if_pos h]
    exact spec_LagrangeWeight_l0 l i p h.1 h.2 hl l.length 0 k 1 (by omega) (by omega) (by omega) (by omega)
  · rw [if_neg (by simp; omega), if_neg h]
theorem laws_toIntS_l0 (l : List Int) (hl : l.length ≤ 4611686018427387904) : ∀ (j k i : Nat) (x : List Int), l.length - i ≤ j → j < k → x.length = l.length → (∀ p, p < i → x[p]? = l[p]?) → laws_toIntS.l0 k l x (i : Int) = some l := by
  intro j
  induction j with
  | zero =>
    intro k i x hi hk hx hp
    obtain ⟨k, rfl⟩ : ∃ m, k = m + 1 := ⟨k - 1, by omega⟩
    simp only [laws_toIntS.l0]
    rw [if_neg (by omega)]
    congr 1
    apply List.ext_getElem?
    intro p
    by_cases h : p < i
    · exact hp p h
    · rw [List.getElem?_eq_none (by omega), List.getElem?_eq_none (by omega)]
  | succ j ih =>
    intro k i x hi hk hx hp
    obtain ⟨k, rfl⟩ : ∃ m, k = m + 1 := ⟨k - 1, by omega⟩
    simp only [laws_toIntS.l0]
    by_cases h : i < l.length
    · rw [if_pos (by omega), if_pos (by omega), if_pos (by omega), nxt (by omega), rd_at h]
      refine ih k (i + 1) _ (by omega) (by omega) (by rw [List.length_set]; exact hx) (fun p hpi => ?_)
      rw [show ((i : Int)).toNat = i from rfl, List.getElem?_set]
      by_cases e : i = p
      · subst e
        rw [if_pos (by simp), if_pos (by omega), List.getElem?_eq_getElem h]
      · rw [if_neg e]
        exact hp p (by omega)
    · rw [if_neg (by omega)]
      congr 1
      apply List.ext_getElem?
      intro p
      by_cases h : p < i
      · exact hp p h
      · rw [List.getElem?_eq_none (by omega), List.getElem?_eq_none (by omega)]
theorem laws_toIntS_eq {k : Nat} (l : List Int) (hl : l.length ≤ 1048576) (hk : 1048576 < k) : laws_toIntS.f k l = some l := by
  unfold laws_toIntS.f
  rw [if_pos (by omega), if_pos (by omega)]
  exact laws_toIntS_l0 l (by omega) l.length k 0 _ (by omega) (by omega) (by simp) (fun p hp => by omega)
theorem impl_Mod_eq {k : Nat} (hk : 0 < k) (a m : Int) (h1 : 1 ≤ m) (h2 : m ≤ 1000000000000) : impl_Mod.f k a m = some (a % m) := by
  obtain ⟨k, rfl⟩ : ∃ j, k = j + 1 := ⟨k - 1, by omega⟩
  unfold impl_Mod.f
  rw [if_neg (by omega)]
  simp only [impl_Mod.j0]
  rw [if_neg (by simp; omega), if_neg (by omega), tmod_two a m h1 h2]
theorem impl_Mod_out {k : Nat} (hk : 0 < k) (a m : Int) (h : ¬ (1 ≤ m ∧ m ≤ 1000000000000)) : impl_Mod.f k a m = some 0 := by
  obtain ⟨k, rfl⟩ : ∃ j, k = j + 1 := ⟨k - 1, by omega⟩
  unfold impl_Mod.f
  by_cases h1 : m < 1
  · rw [if_pos h1]
    simp only [impl_Mod.j0]
    rw [if_pos (by simp)]
  · rw [if_neg h1]
    simp only [impl_Mod.j0]
    rw [if_pos (by simp; omega)]
theorem impl_power_l0 {m : Nat} (hm0 : 0 < m) (hm : m ≤ 2147483647) : ∀ (j k x n o : Nat), n < 2 ^ j → j ≤ 62 → j < k → x < m → o < m → impl_power.l0 k (x : Int) (n : Int) (m : Int) (o : Int) = some ((o * x ^ n % m : Nat) : Int) := by
  intro j
  induction j with
  | zero =>
    intro k x n o hn _ hk hx ho
    obtain ⟨k, rfl⟩ : ∃ m, k = m + 1 := ⟨k - 1, by omega⟩
    obtain rfl : n = 0 := by simpa using hn
    simp only [impl_power.l0]
    rw [if_neg (by omega), Nat.pow_zero, Nat.mul_one, Nat.mod_eq_of_lt ho]
  | succ j ih =>
    intro k x n o hn hj hk hx ho
    obtain ⟨k, rfl⟩ : ∃ m, k = m + 1 := ⟨k - 1, by omega⟩
    simp only [impl_power.l0]
    by_cases h0 : n = 0
    · subst h0
      rw [if_neg (by omega), Nat.pow_zero, Nat.mul_one, Nat.mod_eq_of_lt ho]
    · have hp : 2 ^ (j + 1) ≤ 2 ^ 62 := Nat.pow_le_pow_right (by omega) hj
      have hb : Int.tmod (n : Int) 2 = (n : Int) % 2 := Int.tmod_eq_emod_of_nonneg (by omega)
      have hd : wrap64 (Int.tdiv (n : Int) 2) = ((n / 2 : Nat) : Int) := by
        rw [Int.tdiv_eq_ediv_of_nonneg (by omega), w64 (by omega) (by omega)]; omega
      have hx2 : x * x % m < m := Nat.mod_lt _ (by omega)
      have hn2 : n / 2 < 2 ^ j := by rw [Nat.pow_succ] at hn; omega
      have ex : Int.tmod (wrap64 ((x : Int) * (x : Int))) (m : Int) = ((x * x % m : Nat) : Int) := tmodmul hx hx hm
      rw [if_pos (by omega), hb, hd, ex]
      by_cases h1 : n % 2 = 1
      · have eo : Int.tmod (wrap64 ((o : Int) * (x : Int))) (m : Int) = ((o * x % m : Nat) : Int) := tmodmul ho hx hm
        rw [if_pos (by omega), if_neg (by omega), eo, ih k _ _ _ hn2 (by omega) (by omega) hx2 (Nat.mod_lt _ (by omega)), pow_odd h1]
      · rw [if_neg (by omega), if_neg (by omega), ih k _ _ _ hn2 (by omega) (by omega) hx2 ho, pow_even (by omega)]
theorem impl_power_eq {k : Nat} (hk : 64 ≤ k) {x n m : Int} (X N M : Nat) (hx : x = X) (hn : n = N) (hm : m = M) (hM0 : 1 < M) (hM : M ≤ 2147483647) (hN : N < 4611686018427387904) : impl_power.f k x n m = some ((X ^ N % M : Nat) : Int) := by
  subst hx hn hm
  unfold impl_power.f
  have e : Int.tmod (X : Int) (M : Int) = ((X % M : Nat) : Int) := by
    rw [Int.tmod_eq_emod_of_nonneg (by omega)]; exact (Int.natCast_emod _ _).symm
  have e1 : (1 : Int) % (M : Int) = ((1 : Nat) : Int) := Int.emod_eq_of_lt (by omega) (by omega)
  have h := impl_power_l0 (by omega) hM 62 k (X % M) N 1 (by omega) (by omega) (by omega) (Nat.mod_lt _ (by omega)) (by omega)
  rw [Nat.one_mul, ← Nat.pow_mod] at h
  rw [if_neg (by omega), e, e1]
  exact h
theorem impl_InverseExponent_eq {k : Nat} (hk : 64 ≤ k) (n : Int) : impl_InverseExponent.f k n = some (IV n) := by
  unfold impl_InverseExponent.f
  rw [impl_Mod_eq (by omega) n 1019 (by omega) (by omega)]; simp only [Option.bind_some]
  by_cases h : n % 1019 = 0
  · rw [if_pos h, IV_zero h]
  · rw [if_neg h, impl_power_eq hk (n := 1017) (m := 1019) (n % 1019).toNat inx 1019 (by omega) rfl rfl (by omega) (by omega) (by decide)]; rfl
theorem impl_LagrangeWeight_row (l : List Int) (i p x : Int) (a : Nat) (ha : a < l.length) (hl : l.length ≤ 1048576) : ∀ (n b k : Nat), b + n = a → impl_LagrangeWeight.l1 (k + n + 2) l i p (a : Int) (b : Int) x (a : Int) = if dr l a n b = true then some 0 else impl_LagrangeWeight.l0 (k + 1) l i p x ((a + 1 : Nat) : Int) := by
  intro n
  induction n with
  | zero =>
    intro b k hb
    obtain rfl : b = a := by omega
    conv => lhs; simp only [impl_LagrangeWeight.l1]
    rw [if_neg (by omega), nxt (by omega)]; simp [dr]
  | succ n ih =>
    intro b k hb
    obtain ⟨m, hm⟩ : ∃ m, m = k + n + 2 := ⟨_, rfl⟩
    have hih := ih (b + 1) k (by omega)
    rw [← hm] at hih
    rw [show k + (n + 1) + 2 = m + 1 by omega]
    conv => lhs; simp only [impl_LagrangeWeight.l1]
    rw [if_pos (by omega), if_pos (by omega), if_pos (by omega), impl_Mod_eq (by omega) _ 1019 (by omega) (by omega)]; simp only [Option.bind_some]
    rw [if_pos (by omega), if_pos (by omega), impl_Mod_eq (by omega) _ 1019 (by omega) (by omega)]; simp only [Option.bind_some]
    rw [nxt (by omega), hih]
    rw [show dr l a (n + 1) b = (gm l b == gm l a || dr l a n (b + 1)) from rfl]
    by_cases h : rd l (a : Int) % 1019 = rd l (b : Int) % 1019
    · rw [if_pos h, if_pos (by simp [gm, h])]
    · have e : (gm l b == gm l a) = false := by
        have : ¬ (rd l (b : Int) % 1019 = rd l (a : Int) % 1019) := fun h' => h h'.symm
        simpa [gm] using this
      rw [if_neg h, e, Bool.false_or]
theorem impl_LagrangeWeight_l2 (l : List Int) (i p : Int) (i0 : 0 ≤ i) (i1 : i < (l.length : Int)) (hl : l.length ≤ 1048576) : ∀ (n j k : Nat) (w : Int), j + n = l.length → n + 100 ≤ k → 0 ≤ w → w < 1019 → impl_LagrangeWeight.l2 k l i p w (rd l i % 1019) (l.length : Int) (j : Int) = some (LP l p i.toNat n j w) := by
  intro n
  induction n with
  | zero =>
    intro j k w hj hk w0 w1
    obtain ⟨k, rfl⟩ : ∃ m, k = m + 1 := ⟨k - 1, by omega⟩
    simp only [impl_LagrangeWeight.l2]
    rw [if_neg (by omega)]; simp [LP]
  | succ n ih =>
    intro j k w hj hk w0 w1
    obtain ⟨k, rfl⟩ : ∃ m, k = m + 1 := ⟨k - 1, by omega⟩
    simp only [impl_LagrangeWeight.l2, LP]
    rw [if_pos (by omega), nxt (by omega)]
    by_cases h : j = i.toNat
    · rw [if_pos (by omega), if_pos h, ih (j + 1) k w (by omega) (by omega) w0 w1]
    · rw [if_neg (by omega), if_neg h, if_pos (by omega), if_pos (by omega), impl_Mod_eq (by omega) _ 1019 (by omega) (by omega)]; simp only [Option.bind_some]
      rw [impl_Mod_eq (by omega) _ 1019 (by omega) (by omega)]; simp only [Option.bind_some]
      rw [impl_Mod_eq (by omega) _ 1019 (by omega) (by omega)]; simp only [Option.bind_some]
      rw [impl_InverseExponent_eq (by omega)]; simp only [Option.bind_some]
      have e : (i.toNat : Int) = i := by omega
      have h1 := gm_range l j
      have h2 := gm_range l i.toNat
      unfold gm at h1 h2
      rw [e] at h2
      have hs : w * ((p % 1019 - rd l (j : Int) % 1019) % 1019) % 1019 * IV (rd l i % 1019 - rd l (j : Int) % 1019) % 1019 = LS l p i.toNat j w := by
        unfold LS gm
        rw [e]
      rw [w64 (n := p % 1019 - rd l (j : Int) % 1019) (by omega) (by omega), w64 (n := rd l i % 1019 - rd l (j : Int) % 1019) (by omega) (by omega),
        step_go w0 w1 (Int.emod_nonneg _ (by omega)) (Int.emod_lt_of_pos _ (by omega)) (IV_range _).1 (IV_range _).2, hs,
        ih (j + 1) k _ (by omega) (by omega) (LS_range l p _ j w).1 (LS_range l p _ j w).2]
theorem impl_LagrangeWeight_l0 (l : List Int) (i p : Int) (i0 : 0 ≤ i) (i1 : i < (l.length : Int)) (hl : l.length ≤ 1048576) : ∀ (n j k : Nat), j + n = l.length → n * 2000000 + 2000000 ≤ k → impl_LagrangeWeight.l0 k l i p (l.length : Int) (j : Int) = some (if df l n j = true then 0 else LP l p i.toNat l.length 0 1) := by
  intro n
  induction n with
  | zero =>
    intro j k hj hk
    obtain ⟨k, rfl⟩ : ∃ m, k = m + 1 := ⟨k - 1, by omega⟩
    simp only [impl_LagrangeWeight.l0]
    rw [if_neg (by omega), if_pos (by omega), if_pos (by omega), impl_Mod_eq (by omega) _ 1019 (by omega) (by omega)]; simp only [Option.bind_some]
    have := impl_LagrangeWeight_l2 l i p i0 i1 hl l.length 0 k 1 (by omega) (by omega) (by omega) (by omega)
    rw [show ((0 : Nat) : Int) = 0 from rfl] at this
    rw [this]; simp [df]
  | succ n ih =>
    intro j k hj hk
    rw [Nat.succ_mul] at hk
    generalize hq : n * 2000000 = q at hk
    obtain ⟨k, rfl⟩ : ∃ m, k = m + j + 2 + 1 := ⟨k - j - 3, by omega⟩
    have hk2 : q + 2000000 ≤ k + 1 := by omega
    rw [← hq] at hk2
    simp only [impl_LagrangeWeight.l0]
    have hr := impl_LagrangeWeight_row l i p (l.length : Int) j (by omega) hl j 0 k (by omega)
    rw [show ((0 : Nat) : Int) = 0 from rfl] at hr
    rw [if_pos (by omega), hr, ih (j + 1) (k + 1) (by omega) hk2]
    rw [show df l (n + 1) j = (dr l j j 0 || df l n (j + 1)) from rfl]
    cases h : dr l j j 0 with
    | true => rw [if_pos rfl, if_pos (by simp)]
    | false => rw [if_neg (by simp), Bool.false_or]
theorem impl_LagrangeWeight_eq {k : Nat} (hk : 5000000000000 ≤ k) (l : List Int) (hl : l.length ≤ 1048576) (i p : Int) : impl_LagrangeWeight.f k l i p = some (LW l i p) := by
  obtain ⟨k, rfl⟩ : ∃ m, k = m + 1 := ⟨k - 1, by omega⟩
  unfold impl_LagrangeWeight.f LW
  by_cases h : 0 ≤ i ∧ i < (l.length : Int)
  · rw [if_neg (by omega), if_pos h]
    simp only [impl_LagrangeWeight.j0]
    rw [if_neg (by simp; omega)]
    exact impl_LagrangeWeight_l0 l i p h.1 h.2 hl l.length 0 k (by omega) (by omega)
  · rw [if_neg h]
    by_cases h1 : i < 0
    · rw [if_pos h1]
      simp only [impl_LagrangeWeight.j0]
      rw [if_pos (by simp)]
    · rw [if_neg h1]
      simp only [impl_LagrangeWeight.j0]
      rw [if_pos (by simp; omega)]
theorem laws_eqIntS_l0 (a b : List Int) (hl : a.length = b.length) (hm : a.length ≤ 4611686018427387904) : ∀ (j k i : Nat), a.length - i ≤ j → j < k → laws_eqIntS.l0 k a b (i : Int) = some (decide (a.drop i = b.drop i)) := by
  intro j
  induction j with
  | zero =>
    intro k i hi hk
    obtain ⟨k, rfl⟩ : ∃ m, k = m + 1 := ⟨k - 1, by omega⟩
    simp only [laws_eqIntS.l0]
    rw [if_neg (by omega), List.drop_eq_nil_of_le (by omega), List.drop_eq_nil_of_le (by omega)]; simp
  | succ j ih =>
    intro k i hi hk
    obtain ⟨k, rfl⟩ : ∃ m, k = m + 1 := ⟨k - 1, by omega⟩
    simp only [laws_eqIntS.l0]
    by_cases h : i < a.length
    · have hb : i < b.length := by omega
      rw [if_pos (by omega), if_pos (by omega), if_pos (by omega), nxt (by omega), rd_at h, rd_at hb, ih k (i + 1) (by omega) (by omega), List.drop_eq_getElem_cons h, List.drop_eq_getElem_cons hb]
      by_cases e : a[i] = b[i]
      · rw [if_pos e]; congr 1; rw [decide_eq_decide]; exact ⟨fun h1 => by rw [e, h1], fun h1 => (List.cons.inj h1).2⟩
      · rw [if_neg e]; congr 1; symm; rw [decide_eq_false_iff_not]; exact fun h1 => e (List.cons.inj h1).1
    · rw [if_neg (by omega), List.drop_eq_nil_of_le (by omega), List.drop_eq_nil_of_le (by omega)]; simp
theorem laws_eqIntS_eq {k : Nat} (a b : List Int) (hm : a.length ≤ 4611686018427387904) (hk : a.length < k) : laws_eqIntS.f k a b = some (decide (a = b)) := by
  unfold laws_eqIntS.f
  by_cases h : a.length = b.length
  · rw [if_pos (by omega)]
    exact laws_eqIntS_l0 a b h hm a.length k 0 (by omega) hk
  · rw [if_neg (by omega)]
    have : a ≠ b := fun e => h (by rw [e])
    simp [this]
theorem laws_eqIntS_self {k : Nat} (a : List Int) (hm : a.length ≤ 1048576) (hk : 1048576 < k) : laws_eqIntS.f k a a = some true := by
  rw [laws_eqIntS_eq a a (by omega) (by omega)]; simp
theorem proved : laws_FnExactLagrangeWeight.Pure := by
  intro l0 a1 a2 _ _ _ _ _
  obtain ⟨K, hK⟩ : ∃ K : Nat, 10000000000000 ≤ K := ⟨_, Nat.le_refl _⟩
  refine ⟨K, ?_⟩
  unfold laws_FnExactLagrangeWeight.f
  rcases Nat.lt_or_ge 1048576 l0.length with h_l0 | h_l0
  · rw [if_pos (by omega)]
  rw [if_neg (by omega)]
  simp only [laws_toIntS_eq l0 h_l0 (show 1048576 < K by omega), laws_eqIntS_self l0 h_l0 (show 1048576 < K by omega), spec_LagrangeWeight_eq (show 5000000000000 ≤ K by omega) l0 h_l0 a1 a2, impl_LagrangeWeight_eq (show 5000000000000 ≤ K by omega) l0 h_l0 a1 a2, Option.bind_some]
  simp
end KFnExactLagrangeWeight
theorem FnExactLagrangeWeight : laws_FnExactLagrangeWeight.Pure := KFnExactLagrangeWeight.proved
end Go.Proofs.Ytclfiaafeaocjaa.Pure
