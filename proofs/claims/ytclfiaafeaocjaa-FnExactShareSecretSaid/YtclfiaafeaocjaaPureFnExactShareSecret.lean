/- the program's ShareSecret answers as the reference's, leaves its arguments alone and shares no memory with them. -/
import Derived.Test.YtclfiaafeaocjaaPFnExactShareSecretx3
import Derived.Test.YtclfiaafeaocjaaNum5
set_option linter.unusedVariables false
set_option linter.unusedSimpArgs false
namespace Go.Proofs.Ytclfiaafeaocjaa.Pure
open Go.RowKit Go.Proofs.Ytclfiaafeaocjaa.PFnExactShareSecret Go.Proofs.YtclfiaafeaocjaaW.PrintWords Go.Proofs.YtclfiaafeaocjaaW.PrintLast Go.Proofs.Ytclfiaafeaocjaa.Num
namespace KFnExactShareSecret
theorem rd44_at {l : List S44} {i : Nat} (h : i < l.length) : rd_T44 l (i : Int) = l[i] := by
  unfold rd_T44
  simp [List.getD_eq_getElem?_getD, h]

theorem laws_eqShare_self (a b : Int) : laws_eqShare.f a b a b = some true := by
  unfold laws_eqShare.f
  rw [if_pos rfl, if_pos rfl]
theorem laws_eqShareS_l0 (a : List S44) (hm : a.length ≤ 1048576) : ∀ (j k i : Nat), a.length - i ≤ j → j < k → laws_eqShareS.l0 k a a (i : Int) = some true := by
  intro j
  induction j with
  | zero =>
    intro k i hi hk
    obtain ⟨k, rfl⟩ : ∃ m, k = m + 1 := ⟨k - 1, by omega⟩
    simp only [laws_eqShareS.l0]
    rw [if_neg (by omega)]
  | succ j ih =>
    intro k i hi hk
    obtain ⟨k, rfl⟩ : ∃ m, k = m + 1 := ⟨k - 1, by omega⟩
    simp only [laws_eqShareS.l0]
    by_cases h : i < a.length
    · rw [if_pos (by omega), if_pos (by omega), if_pos (by omega), nxt (by omega), laws_eqShare_self]; simp only [Option.bind_some]
      rw [if_pos trivial, ih k (i + 1) (by omega) (by omega)]
    · rw [if_neg (by omega)]
theorem laws_eqShareS_self {k : Nat} (a : List S44) (hm : a.length ≤ 1048576) (hk : a.length < k) : laws_eqShareS.f k a a = some true := by
  unfold laws_eqShareS.f
  rw [if_pos rfl]
  exact laws_eqShareS_l0 a hm a.length k 0 (by omega) hk
theorem laws_toIntS_l0 (l : List Int) (hl : l.length ≤ 4611686018427387904) : ∀ (j k i : Nat) (x : List Int), l.length - i ≤ j → j < k → x.length = l.length → (∀ p, p < i → x[p]? = l[p]?) → laws_toIntS.l0 k l x (i : Int) = some l := by
  intro j
  induction j with
  | zero =>
    intro k i x hi hk hx hp
    obtain ⟨k, rfl⟩ : ∃ m, k = m + 1 := ⟨k - 1, by omega⟩
    simp only [laws_toIntS.l0]
    rw [if_neg (by omega)]
    congr 1
    apply List.ext_getElem?
    intro p
    by_cases h : p < i
    · exact hp p h
    · rw [List.getElem?_eq_none (by omega), List.getElem?_eq_none (by omega)]
  | succ j ih =>
    intro k i x hi hk hx hp
    obtain ⟨k, rfl⟩ : ∃ m, k = m + 1 := ⟨k - 1, by omega⟩
    simp only [laws_toIntS.l0]
    by_cases h : i < l.length
    · rw [if_pos (by omega), if_pos (by omega), if_pos (by omega), nxt (by omega), rd_at h]
      refine ih k (i + 1) _ (by omega) (by omega) (by rw [List.length_set]; exact hx) (fun p hpi => ?_)
      rw [show ((i : Int)).toNat = i from rfl, List.getElem?_set]
      by_cases e : i = p
      · subst e
        rw [if_pos (by simp), if_pos (by omega), List.getElem?_eq_getElem h]
      · rw [if_neg e]
        exact hp p (by omega)
    · rw [if_neg (by omega)]
      congr 1
      apply List.ext_getElem?
      intro p
      by_cases h : p < i
      · exact hp p h
      · rw [List.getElem?_eq_none (by omega), List.getElem?_eq_none (by omega)]
theorem laws_toIntS_eq {k : Nat} (l : List Int) (hl : l.length ≤ 1048576) (hk : 1048576 < k) : laws_toIntS.f k l = some l := by
  unfold laws_toIntS.f
  rw [if_pos (by omega), if_pos (by omega)]
  exact laws_toIntS_l0 l (by omega) l.length k 0 _ (by omega) (by omega) (by simp) (fun p hp => by omega)
theorem laws_eqIntS_l0 (a b : List Int) (hl : a.length = b.length) (hm : a.length ≤ 4611686018427387904) : ∀ (j k i : Nat), a.length - i ≤ j → j < k → laws_eqIntS.l0 k a b (i : Int) = some (decide (a.drop i = b.drop i)) := by
  intro j
  induction j with
  | zero =>
    intro k i hi hk
    obtain ⟨k, rfl⟩ : ∃ m, k = m + 1 := ⟨k - 1, by omega⟩
    simp only [laws_eqIntS.l0]
    rw [if_neg (by omega), List.drop_eq_nil_of_le (by omega), List.drop_eq_nil_of_le (by omega)]; simp
  | succ j ih =>
    intro k i hi hk
    obtain ⟨k, rfl⟩ : ∃ m, k = m + 1 := ⟨k - 1, by omega⟩
    simp only [laws_eqIntS.l0]
    by_cases h : i < a.length
    · have hb : i < b.length := by omega
      rw [if_pos (by omega), if_pos (by omega), if_pos (by omega), nxt (by omega), rd_at h, rd_at hb, ih k (i + 1) (by omega) (by omega), List.drop_eq_getElem_cons h, List.drop_eq_getElem_cons hb]
      by_cases e : a[i] = b[i]
      · rw [if_pos e]; congr 1; rw [decide_eq_decide]; exact ⟨fun h1 => by rw [e, h1], fun h1 => (List.cons.inj h1).2⟩
      · rw [if_neg e]; congr 1; symm; rw [decide_eq_false_iff_not]; exact fun h1 => e (List.cons.inj h1).1
    · rw [if_neg (by omega), List.drop_eq_nil_of_le (by omega), List.drop_eq_nil_of_le (by omega)]; simp
theorem laws_eqIntS_eq {k : Nat} (a b : List Int) (hm : a.length ≤ 4611686018427387904) (hk : a.length < k) : laws_eqIntS.f k a b = some (decide (a = b)) := by
  unfold laws_eqIntS.f
  by_cases h : a.length = b.length
  · rw [if_pos (by omega)]
    exact laws_eqIntS_l0 a b h hm a.length k 0 (by omega) hk
  · rw [if_neg (by omega)]
    have : a ≠ b := fun e => h (by rw [e])
    simp [this]
theorem laws_eqIntS_self {k : Nat} (a : List Int) (hm : a.length ≤ 1048576) (hk : 1048576 < k) : laws_eqIntS.f k a a = some true := by
  rw [laws_eqIntS_eq a a (by omega) (by omega)]; simp
theorem spec_l1In_eq (a b c : Int) : spec_l1In.f a b c = some (decide (b ≤ a ∧ a ≤ c)) := by
  unfold spec_l1In.f
  by_cases h : b ≤ a
  · rw [if_pos h]; simp [h]
  · rw [if_neg (by omega)]; simp [h]
theorem spec_Mod_eq (a m : Int) (h1 : 1 ≤ m) (h2 : m ≤ 1000000000000) : spec_Mod.f a m = some (a % m) := by
  unfold spec_Mod.f
  rw [spec_l1In_eq]; simp only [Option.bind_some]
  rw [if_pos (by simp; omega), if_neg (by omega), tmod_fix h1 h2]
theorem spec_Mod_out (a m : Int) (h : ¬ (1 ≤ m ∧ m ≤ 1000000000000)) : spec_Mod.f a m = some 0 := by
  unfold spec_Mod.f
  rw [spec_l1In_eq]; simp only [Option.bind_some]
  rw [if_neg (by simpa using h)]
theorem spec_l5Mod_eq (a : Int) : spec_l5Mod.f a = some (a % 1019) := by
  unfold spec_l5Mod.f
  rw [spec_Mod_eq a 1019 (by omega) (by omega)]; rfl
theorem spec_l5Poly_l0 (s : Int) (c : List Int) (x : Int) (x0 : 0 ≤ x) (x1 : x ≤ 1000000) (hc : c.length ≤ 1048576) : ∀ (i k : Nat) (v : Int), i ≤ c.length → i + 10 < k → v = (c.drop i).foldr (fun a v => (v + a % 1019) * x % 1019) 0 → 0 ≤ v → v < 1019 → spec_l5Poly.l0 k s c x v ((i : Int) - 1) = some (PO s c x) := by
  intro i
  induction i with
  | zero =>
    intro k v hi hk hv v0 v1
    obtain ⟨k, rfl⟩ : ∃ m, k = m + 1 := ⟨k - 1, by omega⟩
    simp only [spec_l5Poly.l0]
    rw [if_neg (by omega)]
    rw [spec_l5Mod_eq]; simp only [Option.bind_some]
    have s0 : 0 ≤ s % 1019 := Int.emod_nonneg _ (by omega)
    have s1 : s % 1019 < 1019 := Int.emod_lt_of_pos _ (by omega)
    rw [w64 (by omega) (by omega), Int.tmod_eq_emod_of_nonneg (by omega), hv]; rfl
  | succ i ih =>
    intro k v hi hk hv v0 v1
    obtain ⟨k, rfl⟩ : ∃ m, k = m + 1 := ⟨k - 1, by omega⟩
    simp only [spec_l5Poly.l0]
    rw [show ((i + 1 : Nat) : Int) - 1 = (i : Int) by omega, if_pos (by omega), if_pos (by omega), if_pos (by omega), spec_l5Mod_eq]; simp only [Option.bind_some]
    rw [rd_at (show i < c.length by omega), w64 (n := (i : Int) - 1) (by omega) (by omega)]
    have r0 : 0 ≤ c[i] % 1019 := Int.emod_nonneg _ (by omega)
    have r1 : c[i] % 1019 < 1019 := Int.emod_lt_of_pos _ (by omega)
    have hv2 : (v + c[i] % 1019) * x % 1019 = (c.drop i).foldr (fun a v => (v + a % 1019) * x % 1019) 0 := by
      rw [List.drop_eq_getElem_cons (show i < c.length by omega), List.foldr_cons, ← hv]
    generalize c[i] % 1019 = z at *
    have p0 : 0 ≤ (v + z) * x := Int.mul_nonneg (by omega) x0
    have p1 : (v + z) * x ≤ 2038 * 1000000 := Int.mul_le_mul (by omega) x1 x0 (by omega)
    rw [w64 (n := v + z) (by omega) (by omega), w64 (n := (v + z) * x) (by omega) (by omega), Int.tmod_eq_emod_of_nonneg p0]
    exact ih k _ (by omega) (by omega) hv2 (Int.emod_nonneg _ (by omega)) (Int.emod_lt_of_pos _ (by omega))
theorem spec_l5Poly_eq {k : Nat} (s : Int) (c : List Int) (x : Int) (x0 : 0 ≤ x) (x1 : x ≤ 1000000) (hc : c.length ≤ 1048576) (hk : c.length + 10 < k) : spec_l5Poly.f k s c x = some (PO s c x) := by
  unfold spec_l5Poly.f
  rw [w64 (by omega) (by omega)]
  exact spec_l5Poly_l0 s c x x0 x1 hc c.length k 0 (by omega) hk (by rw [List.drop_length]; rfl) (by omega) (by omega)
def SL (s : Int) (c : List Int) : Nat → Nat → List S44
  | 0, _ => []
  | d + 1, x => ⟨(x : Int), PO s c (x : Int)⟩ :: SL s c d (x + 1)
def SH (s : Int) (c : List Int) (n : Int) : List S44 := if (1 ≤ n ∧ n ≤ 7) ∧ (c.length : Int) < n then SL s c n.toNat 1 else []
theorem SL_length (s : Int) (c : List Int) : ∀ d x, (SL s c d x).length = d := by
  intro d
  induction d with
  | zero => intro x; rfl
  | succ d ih => intro x; simp only [SL, List.length_cons, ih]
theorem SH_length (s : Int) (c : List Int) (n : Int) : (SH s c n).length ≤ 7 := by
  unfold SH
  split
  · rw [SL_length]; omega
  · simp

theorem spec_ShareSecret_l0 (s : Int) (c : List Int) (n : Nat) (hn : n ≤ 7) (hc : c.length ≤ 7) : ∀ (d x k : Nat) (acc : List S44), x + d = n + 1 → d + 100 ≤ k → acc.length + d ≤ 100 → spec_ShareSecret.l0 k s c (n : Int) acc (x : Int) = some (acc ++ SL s c d x) := by
  intro d
  induction d with
  | zero =>
    intro x k acc hx hk ha
    obtain ⟨k, rfl⟩ : ∃ m, k = m + 1 := ⟨k - 1, by omega⟩
    simp only [spec_ShareSecret.l0, SL]
    rw [if_neg (by omega), List.append_nil]
  | succ d ih =>
    intro x k acc hx hk ha
    obtain ⟨k, rfl⟩ : ∃ m, k = m + 1 := ⟨k - 1, by omega⟩
    simp only [spec_ShareSecret.l0, SL]
    rw [if_pos (by omega), spec_l5Poly_eq s c (x : Int) (by omega) (by omega) (by omega) (by omega)]; simp only [Option.bind_some]
    rw [if_pos (by omega), nxt (by omega), ih (x + 1) k _ (by omega) (by omega) (by rw [List.length_append]; simp; omega), List.append_assoc]; rfl

theorem spec_ShareSecret_eq {k : Nat} (hk : 1000 ≤ k) (s : Int) (c : List Int) (n : Int) : spec_ShareSecret.f k s c n = some (SH s c n) := by
  obtain ⟨k, rfl⟩ : ∃ m, k = m + 1 := ⟨k - 1, by omega⟩
  unfold spec_ShareSecret.f SH
  simp only [Option.bind_some, spec_l1In_eq, spec_ShareSecret.j0]
  by_cases h : 1 ≤ n ∧ n ≤ 7
  · rw [if_pos (by simpa using h)]
    by_cases h1 : (c.length : Int) < n
    · obtain ⟨m, rfl⟩ := Int.eq_ofNat_of_zero_le (show 0 ≤ n by omega)
      rw [if_neg (by simp; omega), if_pos ⟨h, h1⟩]
      exact spec_ShareSecret_l0 s c m (by omega) (by omega) m 1 k [] (by omega) (by omega) (by simp; omega)
    · rw [if_pos (by simp; omega), if_neg (fun h2 => h1 h2.2)]
  · rw [if_neg (by simpa using h), if_pos trivial, if_neg (fun h2 => h h2.1)]
theorem impl_InRange_eq (a b c : Int) : impl_InRange.f a b c = some (decide (b ≤ a ∧ a ≤ c)) := by
  unfold impl_InRange.f
  by_cases h : b ≤ a
  · rw [if_pos h]; simp [h]
  · rw [if_neg h]; simp [h]
theorem impl_Mod_eq {k : Nat} (hk : 0 < k) (a m : Int) (h1 : 1 ≤ m) (h2 : m ≤ 1000000000000) : impl_Mod.f k a m = some (a % m) := by
  obtain ⟨k, rfl⟩ : ∃ j, k = j + 1 := ⟨k - 1, by omega⟩
  unfold impl_Mod.f
  rw [if_neg (by omega)]
  simp only [impl_Mod.j0]
  rw [if_neg (by simp; omega), if_neg (by omega), tmod_two a m h1 h2]
theorem impl_Mod_out {k : Nat} (hk : 0 < k) (a m : Int) (h : ¬ (1 ≤ m ∧ m ≤ 1000000000000)) : impl_Mod.f k a m = some 0 := by
  obtain ⟨k, rfl⟩ : ∃ j, k = j + 1 := ⟨k - 1, by omega⟩
  unfold impl_Mod.f
  by_cases h1 : m < 1
  · rw [if_pos h1]
    simp only [impl_Mod.j0]
    rw [if_pos (by simp)]
  · rw [if_neg h1]
    simp only [impl_Mod.j0]
    rw [if_pos (by simp; omega)]
theorem impl_polynomial_l0 (s : Int) (c : List Int) (x : Int) (x0 : 0 ≤ x) (x1 : x ≤ 1000000) (hc : c.length ≤ 1048576) : ∀ (i k : Nat) (v : Int), i ≤ c.length → i + 10 < k → v = (c.drop i).foldr (fun a v => (v + a % 1019) * x % 1019) 0 → 0 ≤ v → v < 1019 → impl_polynomial.l0 k s c x v ((i : Int) - 1) = some (PO s c x) := by
  intro i
  induction i with
  | zero =>
    intro k v hi hk hv v0 v1
    obtain ⟨k, rfl⟩ : ∃ m, k = m + 1 := ⟨k - 1, by omega⟩
    simp only [impl_polynomial.l0]
    rw [if_neg (by omega)]
    rw [impl_Mod_eq (by omega) _ 1019 (by omega) (by omega)]; simp only [Option.bind_some]
    rw [impl_Mod_eq (by omega) _ 1019 (by omega) (by omega)]; simp only [Option.bind_some]
    have s0 : 0 ≤ s % 1019 := Int.emod_nonneg _ (by omega)
    have s1 : s % 1019 < 1019 := Int.emod_lt_of_pos _ (by omega)
    rw [w64 (by omega) (by omega), hv]; rfl
  | succ i ih =>
    intro k v hi hk hv v0 v1
    obtain ⟨k, rfl⟩ : ∃ m, k = m + 1 := ⟨k - 1, by omega⟩
    simp only [impl_polynomial.l0]
    rw [show ((i + 1 : Nat) : Int) - 1 = (i : Int) by omega, if_pos (by omega), if_pos (by omega), if_pos (by omega), impl_Mod_eq (by omega) _ 1019 (by omega) (by omega)]; simp only [Option.bind_some]
    rw [rd_at (show i < c.length by omega), w64 (n := (i : Int) - 1) (by omega) (by omega)]
    have r0 : 0 ≤ c[i] % 1019 := Int.emod_nonneg _ (by omega)
    have r1 : c[i] % 1019 < 1019 := Int.emod_lt_of_pos _ (by omega)
    have hv2 : (v + c[i] % 1019) * x % 1019 = (c.drop i).foldr (fun a v => (v + a % 1019) * x % 1019) 0 := by
      rw [List.drop_eq_getElem_cons (show i < c.length by omega), List.foldr_cons, ← hv]
    generalize c[i] % 1019 = z at *
    have p0 : 0 ≤ (v + z) * x := Int.mul_nonneg (by omega) x0
    have p1 : (v + z) * x ≤ 2038 * 1000000 := Int.mul_le_mul (by omega) x1 x0 (by omega)
    rw [w64 (n := v + z) (by omega) (by omega), w64 (n := (v + z) * x) (by omega) (by omega), Int.tmod_eq_emod_of_nonneg p0]
    exact ih k _ (by omega) (by omega) hv2 (Int.emod_nonneg _ (by omega)) (Int.emod_lt_of_pos _ (by omega))
theorem impl_polynomial_eq {k : Nat} (s : Int) (c : List Int) (x : Int) (x0 : 0 ≤ x) (x1 : x ≤ 1000000) (hc : c.length ≤ 1048576) (hk : c.length + 10 < k) : impl_polynomial.f k s c x = some (PO s c x) := by
  unfold impl_polynomial.f
  rw [w64 (by omega) (by omega)]
  exact impl_polynomial_l0 s c x x0 x1 hc c.length k 0 (by omega) hk (by rw [List.drop_length]; rfl) (by omega) (by omega)
theorem impl_ShareSecret_l0 (s : Int) (c : List Int) (n : Nat) (hn : n ≤ 7) (hc : c.length ≤ 7) : ∀ (d x k : Nat) (acc : List S44), x + d = n + 1 → d + 100 ≤ k → acc.length + d ≤ 100 → impl_ShareSecret.l0 k s c (n : Int) acc (x : Int) = some (acc ++ SL s c d x) := by
  intro d
  induction d with
  | zero =>
    intro x k acc hx hk ha
    obtain ⟨k, rfl⟩ : ∃ m, k = m + 1 := ⟨k - 1, by omega⟩
    simp only [impl_ShareSecret.l0, SL]
    rw [if_neg (by omega), List.append_nil]
  | succ d ih =>
    intro x k acc hx hk ha
    obtain ⟨k, rfl⟩ : ∃ m, k = m + 1 := ⟨k - 1, by omega⟩
    simp only [impl_ShareSecret.l0, SL]
    rw [if_pos (by omega), impl_polynomial_eq s c (x : Int) (by omega) (by omega) (by omega) (by omega)]; simp only [Option.bind_some]
    rw [if_pos (by omega), nxt (by omega), ih (x + 1) k _ (by omega) (by omega) (by rw [List.length_append]; simp; omega), List.append_assoc]; rfl

theorem impl_ShareSecret_eq {k : Nat} (hk : 1000 ≤ k) (s : Int) (c : List Int) (n : Int) : impl_ShareSecret.f k s c n = some (SH s c n) := by
  obtain ⟨k, rfl⟩ : ∃ m, k = m + 1 := ⟨k - 1, by omega⟩
  unfold impl_ShareSecret.f SH
  simp only [Option.bind_some, impl_InRange_eq, impl_ShareSecret.j0]
  by_cases h : 1 ≤ n ∧ n ≤ 7
  · rw [if_pos (by simpa using h)]
    by_cases h1 : (c.length : Int) < n
    · obtain ⟨m, rfl⟩ := Int.eq_ofNat_of_zero_le (show 0 ≤ n by omega)
      rw [if_neg (by simp; omega), if_pos ⟨h, h1⟩]
      exact impl_ShareSecret_l0 s c m (by omega) (by omega) m 1 k [] (by omega) (by omega) (by simp; omega)
    · rw [if_pos (by simp; omega), if_neg (fun h2 => h1 h2.2)]
  · rw [if_neg (by simpa using h), if_pos trivial, if_neg (fun h2 => h h2.1)]
theorem laws_markIntS_l0 (s : Int) (s0 : 0 ≤ s) (s1 : s ≤ 1000000000000) : ∀ (j k i : Nat) (x : List Int), x.length ≤ 1000000000000 → x.length - i ≤ j → j < k → i ≤ x.length → (∀ p, p < i → x[p]? = some (s + ((p : Nat) : Int))) →
    ∃ x', laws_markIntS.l0 k x (s + (i : Int)) (i : Int) = some (s + (x.length : Int), x') ∧ x'.length = x.length ∧ ∀ p, p < x.length → x'[p]? = some (s + ((p : Nat) : Int)) := by
  intro j
  induction j with
  | zero =>
    intro k i x hl hi hk hix hp
    obtain ⟨k, rfl⟩ : ∃ m, k = m + 1 := ⟨k - 1, by omega⟩
    simp only [laws_markIntS.l0]
    rw [if_neg (by omega), show (i : Int) = (x.length : Int) by omega]
    exact ⟨x, rfl, rfl, fun p h => hp p (by omega)⟩
  | succ j ih =>
    intro k i x hl hi hk hix hp
    obtain ⟨k, rfl⟩ : ∃ m, k = m + 1 := ⟨k - 1, by omega⟩
    simp only [laws_markIntS.l0]
    by_cases h : i < x.length
    · have e1 : wrap64 (s + (i : Int) + 1) = s + ((i + 1 : Nat) : Int) := by rw [w64 (by omega) (by omega)]; omega
      rw [if_pos (by omega), if_pos (by omega), e1, nxt (by omega), show ((i : Int)).toNat = i from rfl]
      have hih := ih k (i + 1) (x.set i (s + ((i : Nat) : Int))) (by rw [List.length_set]; exact hl) (by rw [List.length_set]; omega) (by omega) (by rw [List.length_set]; omega) (fun p hpi => by
        rw [List.getElem?_set]
        by_cases e : i = p
        · subst e; rw [if_pos rfl, if_pos h]
        · rw [if_neg e]; exact hp p (by omega))
      rw [List.length_set] at hih
      exact hih
    · rw [if_neg (by omega), show (i : Int) = (x.length : Int) by omega]
      exact ⟨x, rfl, rfl, fun p h => hp p (by omega)⟩
theorem laws_markIntS_ok {k : Nat} (s : Int) (s0 : 0 ≤ s) (s1 : s ≤ 1000000000000) (x : List Int) (hl : x.length ≤ 1000000000000) (hk : x.length < k) :
    ∃ x', laws_markIntS.f k x s = some (s + (x.length : Int), x') ∧ x'.length = x.length ∧ ∀ p, p < x.length → x'[p]? = some (s + ((p : Nat) : Int)) := by
  unfold laws_markIntS.f
  have h := laws_markIntS_l0 s s0 s1 x.length k 0 x hl (by omega) hk (by omega) (fun p hp => by omega)
  rw [show s + ((0 : Nat) : Int) = s by omega] at h
  exact h
theorem laws_markShareS_l0 (s : Int) (s0 : 0 ≤ s) (s1 : s ≤ 1000000000000) : ∀ (j k i : Nat) (x : List S44), x.length ≤ 100000000000 → x.length - i ≤ j → j < k → i ≤ x.length → (∀ p, p < i → x[p]? = some ⟨s + 2 * ((p : Nat) : Int), s + 2 * ((p : Nat) : Int) + 1⟩) →
    ∃ x', laws_markShareS.l0 k x (s + 2 * (i : Int)) (i : Int) = some (s + 2 * (x.length : Int), x') ∧ x'.length = x.length ∧ ∀ p, p < x.length → x'[p]? = some ⟨s + 2 * ((p : Nat) : Int), s + 2 * ((p : Nat) : Int) + 1⟩ := by
  intro j
  induction j with
  | zero =>
    intro k i x hl hi hk hix hp
    obtain ⟨k, rfl⟩ : ∃ m, k = m + 1 := ⟨k - 1, by omega⟩
    simp only [laws_markShareS.l0]
    rw [if_neg (by omega), show (i : Int) = (x.length : Int) by omega]
    exact ⟨x, rfl, rfl, fun p h => hp p (by omega)⟩
  | succ j ih =>
    intro k i x hl hi hk hix hp
    obtain ⟨k, rfl⟩ : ∃ m, k = m + 1 := ⟨k - 1, by omega⟩
    simp only [laws_markShareS.l0, Option.bind_some]
    by_cases h : i < x.length
    · have e1 : wrap64 (s + 2 * (i : Int) + 1) = s + 2 * (i : Int) + 1 := w64 (by omega) (by omega)
      have e2 : wrap64 (s + 2 * (i : Int) + 1 + 1) = s + 2 * ((i + 1 : Nat) : Int) := by rw [w64 (by omega) (by omega)]; omega
      rw [if_pos (by omega), if_pos (by omega), e1, e2, nxt (by omega), show ((i : Int)).toNat = i from rfl, List.set_set, rd44_at (by rw [List.length_set]; exact h), List.getElem_set_self]
      have hih := ih k (i + 1) (x.set i ⟨s + 2 * (i : Int), s + 2 * (i : Int) + 1⟩) (by rw [List.length_set]; exact hl) (by rw [List.length_set]; omega) (by omega) (by rw [List.length_set]; omega) (fun p hpi => by
        rw [List.getElem?_set]
        by_cases e : i = p
        · subst e; rw [if_pos rfl, if_pos h]
        · rw [if_neg e]; exact hp p (by omega))
      rw [List.length_set] at hih
      exact hih
    · rw [if_neg (by omega), show (i : Int) = (x.length : Int) by omega]
      exact ⟨x, rfl, rfl, fun p h => hp p (by omega)⟩
theorem laws_markShareS_ok {k : Nat} (s : Int) (s0 : 0 ≤ s) (s1 : s ≤ 1000000000000) (x : List S44) (hl : x.length ≤ 100000000000) (hk : x.length < k) :
    ∃ x', laws_markShareS.f k x s = some (s + 2 * (x.length : Int), x') ∧ x'.length = x.length ∧ ∀ p, p < x.length → x'[p]? = some ⟨s + 2 * ((p : Nat) : Int), s + 2 * ((p : Nat) : Int) + 1⟩ := by
  unfold laws_markShareS.f
  have h := laws_markShareS_l0 s s0 s1 x.length k 0 x hl (by omega) hk (by omega) (fun p hp => by omega)
  rw [show s + 2 * ((0 : Nat) : Int) = s by omega] at h
  exact h
theorem laws_heldShareS_l0 (s : Int) (s0 : 0 ≤ s) (s1 : s ≤ 1000000000000) (x : List S44) (n : Nat) (hn : x.length = n) (hl : n ≤ 100000000000) (hp : ∀ p, p < n → x[p]? = some ⟨s + 2 * ((p : Nat) : Int), s + 2 * ((p : Nat) : Int) + 1⟩) : ∀ (j k i : Nat), n - i ≤ j → j < k → i ≤ n → laws_heldShareS.l0 k x (s + 2 * (i : Int)) (i : Int) = some (s + 2 * (n : Int)) := by
  intro j
  induction j with
  | zero =>
    intro k i hi hk hin
    obtain ⟨k, rfl⟩ : ∃ m, k = m + 1 := ⟨k - 1, by omega⟩
    simp only [laws_heldShareS.l0]
    rw [if_neg (by omega), show i = n by omega]
  | succ j ih =>
    intro k i hi hk hin
    obtain ⟨k, rfl⟩ : ∃ m, k = m + 1 := ⟨k - 1, by omega⟩
    simp only [laws_heldShareS.l0]
    by_cases h : i < n
    · have e1 : wrap64 (s + 2 * (i : Int) + 1) = s + 2 * (i : Int) + 1 := w64 (by omega) (by omega)
      have e2 : wrap64 (s + 2 * (i : Int) + 1 + 1) = s + 2 * ((i + 1 : Nat) : Int) := by rw [w64 (by omega) (by omega)]; omega
      have h' : i < x.length := by omega
      have e3 : x[i] = ⟨s + 2 * (i : Int), s + 2 * (i : Int) + 1⟩ := by
        have := hp i h
        rw [List.getElem?_eq_getElem h'] at this
        exact Option.some.inj this
      rw [if_pos (by omega), if_pos (by omega), e1, e2, nxt (by omega), rd44_at h', e3, if_pos rfl, if_pos rfl]
      exact ih k (i + 1) (by omega) (by omega) (by omega)
    · rw [if_neg (by omega), show i = n by omega]
theorem laws_heldShareS_ok {k : Nat} (s : Int) (s0 : 0 ≤ s) (s1 : s ≤ 1000000000000) (x : List S44) (n : Nat) (hn : x.length = n) (hl : n ≤ 100000000000) (hk : n < k) (hp : ∀ p, p < n → x[p]? = some ⟨s + 2 * ((p : Nat) : Int), s + 2 * ((p : Nat) : Int) + 1⟩) : laws_heldShareS.f k x s = some (s + 2 * (n : Int)) := by
  unfold laws_heldShareS.f
  have h := laws_heldShareS_l0 s s0 s1 x n hn hl hp n k 0 (by omega) hk (by omega)
  rw [show s + 2 * ((0 : Nat) : Int) = s by omega] at h
  exact h
theorem proved : laws_FnExactShareSecret.Pure := by
  intro a0 l1 a2 _ _ _ _ _
  obtain ⟨K, hK⟩ : ∃ K : Nat, 10000000000000 ≤ K := ⟨_, Nat.le_refl _⟩
  refine ⟨K, ?_⟩
  unfold laws_FnExactShareSecret.f
  rcases Nat.lt_or_ge 1048576 l1.length with h_l1 | h_l1
  · rw [if_pos (by omega)]
  rw [if_neg (by omega)]
  have hto : ∀ k, 100000000 ≤ k → laws_toIntS.f k l1 = some l1 := fun k hk => laws_toIntS_eq l1 h_l1 (by omega)
  have hsa := laws_eqIntS_self (k := K) l1 h_l1 (by omega)
  have hs : spec_ShareSecret.f K a0 l1 a2 = some (SH a0 l1 a2) := spec_ShareSecret_eq (by omega) a0 l1 a2
  have hi : ∀ k, 100000000 ≤ k → impl_ShareSecret.f k a0 l1 a2 = some (SH a0 l1 a2) := fun k hk => impl_ShareSecret_eq (by omega) a0 l1 a2
  have hlen := SH_length a0 l1 a2
  generalize SH a0 l1 a2 = r at *
  have hq : ∀ k, 100000000 ≤ k → laws_eqShareS.f k r r = some true := fun k hk => laws_eqShareS_self r (by omega) (by omega)
  have hm : ∀ k, 100000000 ≤ k → ∃ r', laws_markShareS.f k r 1 = some (1 + 2 * (r.length : Int), r') ∧ ∀ k', 100000000 ≤ k' → laws_heldShareS.f k' r' 1 = some (1 + 2 * (r.length : Int)) := by
    intro k hk
    obtain ⟨r', e1, e2, e3⟩ := laws_markShareS_ok (k := k) 1 (by omega) (by omega) r (by omega) (by omega)
    exact ⟨r', e1, fun k' hk' => laws_heldShareS_ok 1 (by omega) (by omega) r' r.length e2 (by omega) (by omega) e3⟩
  have hnr : ¬ (1 + 2 * (r.length : Int) < 0) := by omega
  have hn1 : ¬ (1 + (l1.length : Int) < 0) := by omega
  have hj : laws_FnExactShareSecret.j0 K a0 l1 a2 r r false = some true := by
    obtain ⟨k, rfl⟩ : ∃ j, K = j + 1 := ⟨K - 1, by omega⟩
    obtain ⟨r', e1, e2⟩ := hm k (by omega)
    simp only [laws_FnExactShareSecret.j0]
    rw [if_neg (by simp)]
    simp only [e1, e2 k (by omega), hto k (by omega), hi k (by omega), hq k (by omega), Option.bind_some]
    simp only [↓reduceIte, hnr]
  obtain ⟨x, ex, _⟩ := laws_markIntS_ok (k := K) 1 (by omega) (by omega) l1 (by omega) (by omega)
  simp only [hto K (by omega), hs, hi K (by omega), hq K (by omega), hsa, ex, Option.bind_some]
  simp only [↓reduceIte, hn1, Bool.not_true, hj]
end KFnExactShareSecret
theorem FnExactShareSecret : laws_FnExactShareSecret.Pure := KFnExactShareSecret.proved
end Go.Proofs.Ytclfiaafeaocjaa.Pure
