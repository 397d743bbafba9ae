/- the program's AreShares answers as the reference's and leaves its arguments alone. -/
import Derived.Test.YtclfiaafeaocjaaPFnExactAreSharesx2
import Derived.Test.YtclfiaafeaocjaaNum5
set_option linter.unusedVariables false
set_option linter.unusedSimpArgs false
namespace Go.Proofs.Ytclfiaafeaocjaa.Pure
open Go.RowKit Go.Proofs.Ytclfiaafeaocjaa.PFnExactAreShares Go.Proofs.YtclfiaafeaocjaaW.PrintWords Go.Proofs.YtclfiaafeaocjaaW.PrintLast Go.Proofs.Ytclfiaafeaocjaa.Num
def laws_FnExactAreShares.Pure : Prop := ∀ l0 : List S55, l0.length ≤ 9223372036854775807 → ∃ k, laws_FnExactAreShares.f k l0 = some true
namespace KFnExactAreShares
theorem rd44_at {l : List S44} {i : Nat} (h : i < l.length) : rd_T44 l (i : Int) = l[i] := by
  unfold rd_T44
  simp [List.getD_eq_getElem?_getD, h]

def inr (s : S44) : Bool := decide (1 ≤ s.f0 ∧ s.f0 ≤ 7) && decide (0 ≤ s.f1 ∧ s.f1 ≤ 1018)
def dupI (l : List S44) (i : Nat) : Nat → Nat → Bool
  | 0, _ => false
  | n + 1, j => ((rd_T44 l (j : Int)).f0 == (rd_T44 l (i : Int)).f0) || dupI l i n (j + 1)
def good (l : List S44) : Nat → Nat → Bool
  | 0, _ => true
  | n + 1, i => inr (rd_T44 l (i : Int)) && !(dupI l i i 0) && good l n (i + 1)
/-- Are these shares? -/
def ARE (l : List S44) : Bool := decide ((1 : Int) ≤ (l.length : Int) ∧ (l.length : Int) ≤ 7) && good l l.length 0
theorem dupI_iff (l : List S44) (i : Nat) : ∀ n b, dupI l i n b = true ↔ ∃ j, b ≤ j ∧ j < b + n ∧ (rd_T44 l (j : Int)).f0 = (rd_T44 l (i : Int)).f0 := by
  intro n
  induction n with
  | zero => intro b; simp only [dupI]; exact ⟨fun h => by simp at h, fun ⟨j, h1, h2, _⟩ => by omega⟩
  | succ n ih =>
    intro b
    simp only [dupI, Bool.or_eq_true, beq_iff_eq, ih]
    constructor
    · rintro (h | ⟨j, h1, h2, h3⟩)
      · exact ⟨b, by omega, by omega, h⟩
      · exact ⟨j, by omega, by omega, h3⟩
    · rintro ⟨j, h1, h2, h3⟩
      by_cases e : j = b
      · exact .inl (by rw [← e]; exact h3)
      · exact .inr ⟨j, by omega, by omega, h3⟩
theorem good_at (l : List S44) : ∀ n i, good l n i = true → ∀ j, i ≤ j → j < i + n → inr (rd_T44 l (j : Int)) = true := by
  intro n
  induction n with
  | zero => intro i _ j h1 h2; omega
  | succ n ih =>
    intro i h j h1 h2
    simp only [good, Bool.and_eq_true] at h
    by_cases e : j = i
    · rw [e]; exact h.1.1
    · exact ih (i + 1) h.2 j (by omega) (by omega)
theorem ARE_len {l : List S44} (h : ARE l = true) : 1 ≤ l.length ∧ l.length ≤ 7 := by
  unfold ARE at h
  simp only [Bool.and_eq_true, decide_eq_true_eq] at h
  omega
theorem ARE_at {l : List S44} (h : ARE l = true) {i : Nat} (hi : i < l.length) : (1 ≤ (rd_T44 l (i : Int)).f0 ∧ (rd_T44 l (i : Int)).f0 ≤ 7) ∧ (0 ≤ (rd_T44 l (i : Int)).f1 ∧ (rd_T44 l (i : Int)).f1 ≤ 1018) := by
  unfold ARE at h
  rw [Bool.and_eq_true] at h
  have := good_at l _ _ h.2 i (by omega) (by omega)
  unfold inr at this
  simpa only [Bool.and_eq_true, decide_eq_true_eq] using this
theorem rd55_at {l : List S55} {i : Nat} (h : i < l.length) : rd_T55 l (i : Int) = l[i] := by
  unfold rd_T55
  simp [List.getD_eq_getElem?_getD, h]
theorem laws_szShareS_big (l : List S55) (hl : l.length ≤ 9223372036854775807) (h : 1048576 < l.length) : laws_szShareS.f l 1048576 = some (-1) := by
  unfold laws_szShareS.f
  rw [w64 (by omega) (by omega), if_pos (by omega)]
theorem laws_szShareS_ok (l : List S55) (h : l.length ≤ 1048576) : laws_szShareS.f l 1048576 = some (1048576 - (l.length : Int)) := by
  unfold laws_szShareS.f
  rw [w64 (by omega) (by omega), if_neg (by omega)]
theorem spec_l1In_eq (a b c : Int) : spec_l1In.f a b c = some (decide (b ≤ a ∧ a ≤ c)) := by
  unfold spec_l1In.f
  by_cases h : b ≤ a
  · rw [if_pos h]; simp [h]
  · rw [if_neg (by omega)]; simp [h]
theorem spec_AreShares_row (l : List S44) (a : Nat) (ha : a < l.length) (hl : l.length ≤ 1048576) : ∀ (n b k : Nat), b + n = a → spec_AreShares.l1 (k + n + 1) l (a : Int) (b : Int) = if dupI l a n b = true then some false else spec_AreShares.l0 k l ((a + 1 : Nat) : Int) := by
  intro n
  induction n with
  | zero =>
    intro b k hb
    obtain rfl : b = a := by omega
    conv => lhs; simp only [spec_AreShares.l1]
    rw [if_neg (by omega), nxt (by omega)]; simp [dupI]
  | succ n ih =>
    intro b k hb
    obtain ⟨m, hm⟩ : ∃ m, m = k + n + 1 := ⟨_, rfl⟩
    have hih := ih (b + 1) k (by omega)
    rw [← hm] at hih
    rw [show k + (n + 1) + 1 = m + 1 by omega]
    conv => lhs; simp only [spec_AreShares.l1]
    rw [if_pos (by omega), if_pos (by omega), if_pos (by omega), if_pos (by omega), if_pos (by omega), nxt (by omega), hih]
    rw [show dupI l a (n + 1) b = ((rd_T44 l (b : Int)).f0 == (rd_T44 l (a : Int)).f0 || dupI l a n (b + 1)) from rfl]
    by_cases h : (rd_T44 l (b : Int)).f0 = (rd_T44 l (a : Int)).f0
    · rw [if_pos h, if_pos (by simp [h])]
    · have e : ((rd_T44 l (b : Int)).f0 == (rd_T44 l (a : Int)).f0) = false := by simpa using h
      rw [if_neg h, e, Bool.false_or]
theorem spec_AreShares_l0 (l : List S44) (hl : l.length ≤ 1048576) : ∀ (n i k : Nat), i + n = l.length → n * 2000000 + 100 ≤ k → spec_AreShares.l0 k l (i : Int) = some (decide ((1 : Int) ≤ (l.length : Int) ∧ (l.length : Int) ≤ 7) && good l n i) := by
  intro n
  induction n with
  | zero =>
    intro i k hi hk
    obtain ⟨k, rfl⟩ : ∃ m, k = m + 1 := ⟨k - 1, by omega⟩
    simp only [spec_AreShares.l0, good, Bool.and_true]
    rw [if_neg (by omega), spec_l1In_eq]; rfl
  | succ n ih =>
    intro i k hi hk
    rw [Nat.succ_mul] at hk
    generalize hq : n * 2000000 = q at hk
    obtain ⟨k, rfl⟩ : ∃ m, k = (m + i + 1) + 1 + 1 := ⟨k - i - 3, by omega⟩
    have hk2 : q + 100 ≤ k := by omega
    rw [← hq] at hk2
    have hrow := spec_AreShares_row l i (by omega) hl i 0 k (by omega)
    rw [show ((0 : Nat) : Int) = 0 from rfl] at hrow
    generalize k + i + 1 = q1 at hrow
    simp only [spec_AreShares.l0, spec_AreShares.j1]
    rw [if_pos (by omega), if_pos (by omega), spec_l1In_eq]; simp only [Option.bind_some]
    rw [show good l (n + 1) i = (inr (rd_T44 l (i : Int)) && !(dupI l i i 0) && good l n (i + 1)) from rfl]
    have einr : inr (rd_T44 l (i : Int)) = (decide (1 ≤ (rd_T44 l (i : Int)).f0 ∧ (rd_T44 l (i : Int)).f0 ≤ 7) && decide (0 ≤ (rd_T44 l (i : Int)).f1 ∧ (rd_T44 l (i : Int)).f1 ≤ 1018)) := rfl
    rw [einr]
    cases h1 : decide (1 ≤ (rd_T44 l (i : Int)).f0 ∧ (rd_T44 l (i : Int)).f0 ≤ 7) with
    | false => simp
    | true =>
      rw [if_pos rfl, spec_l1In_eq]; simp only [Option.bind_some]
      cases h2 : decide (0 ≤ (rd_T44 l (i : Int)).f1 ∧ (rd_T44 l (i : Int)).f1 ≤ 1018) with
      | false => simp
      | true =>
        rw [if_neg (by simp), hrow, ih (i + 1) k (by omega) hk2]
        cases h3 : dupI l i i 0 with
        | true => simp
        | false => simp
theorem spec_AreShares_eq {k : Nat} (hk : 5000000000000 ≤ k) (l : List S44) (hl : l.length ≤ 1048576) : spec_AreShares.f k l = some (ARE l) := by
  unfold spec_AreShares.f ARE
  exact spec_AreShares_l0 l hl l.length 0 k (by omega) (by omega)

def CV (l : List S55) : List S44 := l.map fun x => ⟨x.f0, x.f1⟩
theorem CV_length (l : List S55) : (CV l).length = l.length := by unfold CV; simp
theorem laws_toShareS_l0 (l : List S55) (hl : l.length ≤ 4611686018427387904) : ∀ (j k i : Nat) (x : List S44), l.length - i ≤ j → j < k → x.length = l.length → (∀ p, p < i → x[p]? = (CV l)[p]?) → laws_toShareS.l0 k l x (i : Int) = some (CV l) := by
  intro j
  induction j with
  | zero =>
    intro k i x hi hk hx hp
    obtain ⟨k, rfl⟩ : ∃ m, k = m + 1 := ⟨k - 1, by omega⟩
    simp only [laws_toShareS.l0]
    rw [if_neg (by omega)]
    congr 1
    apply List.ext_getElem?
    intro p
    by_cases h : p < i
    · exact hp p h
    · rw [List.getElem?_eq_none (by omega), List.getElem?_eq_none (by rw [CV_length]; omega)]
  | succ j ih =>
    intro k i x hi hk hx hp
    obtain ⟨k, rfl⟩ : ∃ m, k = m + 1 := ⟨k - 1, by omega⟩
    simp only [laws_toShareS.l0, laws_toShare.f, Option.bind_some]
    by_cases h : i < l.length
    · rw [if_pos (by omega), if_pos (by omega), if_pos (by omega), nxt (by omega), rd55_at h]
      refine ih k (i + 1) _ (by omega) (by omega) (by rw [List.length_set]; exact hx) (fun p hpi => ?_)
      rw [show ((i : Int)).toNat = i from rfl, List.getElem?_set]
      by_cases e : i = p
      · subst e
        rw [if_pos (by simp), if_pos (by omega)]
        unfold CV
        rw [List.getElem?_map, List.getElem?_eq_getElem h]; rfl
      · rw [if_neg e]
        exact hp p (by omega)
    · rw [if_neg (by omega)]
      congr 1
      apply List.ext_getElem?
      intro p
      by_cases h : p < i
      · exact hp p h
      · rw [List.getElem?_eq_none (by omega), List.getElem?_eq_none (by rw [CV_length]; omega)]
theorem laws_toShareS_eq {k : Nat} (l : List S55) (hl : l.length ≤ 1048576) (hk : 1048576 < k) : laws_toShareS.f k l = some (CV l) := by
  unfold laws_toShareS.f
  rw [if_pos (by omega), if_pos (by omega)]
  exact laws_toShareS_l0 l (by omega) l.length k 0 _ (by omega) (by omega) (by simp) (fun p hp => by omega)
theorem impl_InRange_eq (a b c : Int) : impl_InRange.f a b c = some (decide (b ≤ a ∧ a ≤ c)) := by
  unfold impl_InRange.f
  by_cases h : b ≤ a
  · rw [if_pos h]; simp [h]
  · rw [if_neg h]; simp [h]
theorem AS_good (l : List S44) : ∀ (n i : Nat) (L : List Bool), i + n = l.length → L.length = 8 → (∀ v : Nat, v < 8 → (L.getD v false = true ↔ ∃ j : Nat, j < i ∧ (rd_T44 l (j : Int)).f0 = (v : Int))) → AS L (l.drop i) = good l n i := by
  intro n
  induction n with
  | zero =>
    intro i L hi hL hv
    rw [List.drop_eq_nil_of_le (by omega)]; rfl
  | succ n ih =>
    intro i L hi hL hv
    rw [AS_at L (by omega)]
    have einr : inr (rd_T44 l (i : Int)) = (decide (1 ≤ (rd_T44 l (i : Int)).f0 ∧ (rd_T44 l (i : Int)).f0 ≤ 7) && decide (0 ≤ (rd_T44 l (i : Int)).f1 ∧ (rd_T44 l (i : Int)).f1 ≤ 1018)) := rfl
    have hd := dupI_iff l i i 0
    have ih' := ih (i + 1) (L.set (rd_T44 l (i : Int)).f0.toNat true) (by omega) (by rw [List.length_set]; exact hL)
    rw [show good l (n + 1) i = (inr (rd_T44 l (i : Int)) && !(dupI l i i 0) && good l n (i + 1)) from rfl, einr]
    by_cases h : (1 ≤ (rd_T44 l (i : Int)).f0 ∧ (rd_T44 l (i : Int)).f0 ≤ 7) ∧ (0 ≤ (rd_T44 l (i : Int)).f1 ∧ (rd_T44 l (i : Int)).f1 ≤ 1018)
    · rw [decide_eq_true h.1, decide_eq_true h.2, Bool.true_and, Bool.true_and]
      have hlt : (rd_T44 l (i : Int)).f0.toNat < 8 := by omega
      have hcast : ((rd_T44 l (i : Int)).f0.toNat : Int) = (rd_T44 l (i : Int)).f0 := by omega
      have hv1 := hv _ hlt
      rw [hcast] at hv1
      have hdv : dupI l i i 0 = L.getD (rd_T44 l (i : Int)).f0.toNat false := by
        rw [Bool.eq_iff_iff, hd, hv1]
        exact ⟨fun ⟨j, _, h2, h3⟩ => ⟨j, by omega, h3⟩, fun ⟨j, h2, h3⟩ => ⟨j, by omega, by omega, h3⟩⟩
      rw [hdv]
      cases hg : L.getD (rd_T44 l (i : Int)).f0.toNat false with
      | true => rw [if_neg (fun h2 => by simp at h2)]; rfl
      | false =>
        rw [if_pos ⟨h, rfl⟩, Bool.not_false, Bool.true_and]
        refine ih' (fun v hv8 => ?_)
        have e1 : (L.set (rd_T44 l (i : Int)).f0.toNat true).getD v false = if (rd_T44 l (i : Int)).f0.toNat = v then true else L.getD v false := by
          simp only [List.getD_eq_getElem?_getD, List.getElem?_set]
          by_cases e : (rd_T44 l (i : Int)).f0.toNat = v
          · rw [if_pos e, if_pos e, if_pos (by omega)]; rfl
          · rw [if_neg e, if_neg e]
        rw [e1]
        by_cases e : (rd_T44 l (i : Int)).f0.toNat = v
        · rw [if_pos e]
          exact ⟨fun _ => ⟨i, by omega, by omega⟩, fun _ => rfl⟩
        · rw [if_neg e, hv v hv8]
          constructor
          · rintro ⟨j, h1, h2⟩; exact ⟨j, by omega, h2⟩
          · rintro ⟨j, h1, h2⟩
            by_cases ej : j = i
            · subst ej; omega
            · exact ⟨j, by omega, h2⟩
    · rw [if_neg (fun h2 => h h2.1)]
      have : (decide (1 ≤ (rd_T44 l (i : Int)).f0 ∧ (rd_T44 l (i : Int)).f0 ≤ 7) && decide (0 ≤ (rd_T44 l (i : Int)).f1 ∧ (rd_T44 l (i : Int)).f1 ≤ 1018)) = false := by
        cases hb : (decide (1 ≤ (rd_T44 l (i : Int)).f0 ∧ (rd_T44 l (i : Int)).f0 ≤ 7) && decide (0 ≤ (rd_T44 l (i : Int)).f1 ∧ (rd_T44 l (i : Int)).f1 ≤ 1018)) with
        | false => rfl
        | true =>
          simp only [Bool.and_eq_true, decide_eq_true_eq] at hb
          exact absurd hb h
      rw [this]; rfl
theorem impl_AreShares_eq (k : Nat) (l : List S44) : impl_AreShares.f k l = some (ARE l) := by
  unfold impl_AreShares.f ARE
  have h := AS_good l l.length 0 [false, false, false, false, false, false, false, false] (by omega) rfl (fun v hv => by
    constructor
    · intro h
      exfalso
      match v, hv with
      | 0, _ => simp at h
      | 1, _ => simp at h
      | 2, _ => simp at h
      | 3, _ => simp at h
      | 4, _ => simp at h
      | 5, _ => simp at h
      | 6, _ => simp at h
      | 7, _ => simp at h
    · rintro ⟨j, h, _⟩; omega)
  rw [List.drop_zero] at h
  rw [h]
  by_cases hl : 1 ≤ l.length ∧ l.length ≤ 7
  · rw [if_pos hl, decide_eq_true (by omega), Bool.true_and]
  · rw [if_neg hl, decide_eq_false (by omega), Bool.false_and]

theorem laws_eqShare_self (a b : Int) : laws_eqShare.f a b a b = some true := by
  unfold laws_eqShare.f
  rw [if_pos rfl, if_pos rfl]
theorem laws_eqShareS_l0 (a : List S44) (hm : a.length ≤ 1048576) : ∀ (j k i : Nat), a.length - i ≤ j → j < k → laws_eqShareS.l0 k a a (i : Int) = some true := by
  intro j
  induction j with
  | zero =>
    intro k i hi hk
    obtain ⟨k, rfl⟩ : ∃ m, k = m + 1 := ⟨k - 1, by omega⟩
    simp only [laws_eqShareS.l0]
    rw [if_neg (by omega)]
  | succ j ih =>
    intro k i hi hk
    obtain ⟨k, rfl⟩ : ∃ m, k = m + 1 := ⟨k - 1, by omega⟩
    simp only [laws_eqShareS.l0]
    by_cases h : i < a.length
    · rw [if_pos (by omega), if_pos (by omega), if_pos (by omega), nxt (by omega), laws_eqShare_self]; simp only [Option.bind_some]
      rw [if_pos trivial, ih k (i + 1) (by omega) (by omega)]
    · rw [if_neg (by omega)]
theorem laws_eqShareS_self {k : Nat} (a : List S44) (hm : a.length ≤ 1048576) (hk : a.length < k) : laws_eqShareS.f k a a = some true := by
  unfold laws_eqShareS.f
  rw [if_pos rfl]
  exact laws_eqShareS_l0 a hm a.length k 0 (by omega) hk
theorem proved : laws_FnExactAreShares.Pure := by
  intro l0 hmax
  obtain ⟨K, hK⟩ : ∃ K : Nat, 10000000000000 ≤ K := ⟨_, Nat.le_refl _⟩
  refine ⟨K, ?_⟩
  unfold laws_FnExactAreShares.f
  rcases Nat.lt_or_ge 1048576 l0.length with h_l0 | h_l0
  · rw [laws_szShareS_big l0 hmax h_l0]; simp only [Option.bind_some]
    rw [if_pos (by omega)]
  rw [laws_szShareS_ok l0 h_l0]; simp only [Option.bind_some]
  rw [if_neg (by omega)]
  have hcl := CV_length l0
  have hto : ∀ k, 100000000 ≤ k → laws_toShareS.f k l0 = some (CV l0) := fun k hk => laws_toShareS_eq l0 h_l0 (by omega)
  simp only [hto K (by omega), spec_AreShares_eq (show 5000000000000 ≤ K by omega) (CV l0) (by omega), impl_AreShares_eq K (CV l0), laws_eqShareS_self (k := K) (CV l0) (by omega) (by omega), Option.bind_some]
  simp
end KFnExactAreShares
theorem FnExactAreShares : laws_FnExactAreShares.Pure := KFnExactAreShares.proved
end Go.Proofs.Ytclfiaafeaocjaa.Pure
