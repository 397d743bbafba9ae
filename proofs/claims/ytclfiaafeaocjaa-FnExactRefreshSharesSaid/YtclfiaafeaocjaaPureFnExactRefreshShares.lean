/- the program's RefreshShares answers as the reference's, leaves its arguments alone and shares no memory with them. -/
import Derived.Test.YtclfiaafeaocjaaPFnExactRefreshSharesx4
import Derived.Test.YtclfiaafeaocjaaNum5
set_option linter.unusedVariables false
set_option linter.unusedSimpArgs false
namespace Go.Proofs.Ytclfiaafeaocjaa.Pure
open Go.RowKit Go.Proofs.Ytclfiaafeaocjaa.PFnExactRefreshShares Go.Proofs.YtclfiaafeaocjaaW.PrintWords Go.Proofs.YtclfiaafeaocjaaW.PrintLast Go.Proofs.Ytclfiaafeaocjaa.Num
def laws_FnExactRefreshShares.Pure : Prop := ∀ l0 : List S55, l0.length ≤ 9223372036854775807 → ∀ l1 : List Int, l1.length ≤ maxLen → (∀ x ∈ l1, (Lit.int .i64 x).wf = true) → ∃ k, laws_FnExactRefreshShares.f k l0 l1 = some true
namespace KFnExactRefreshShares
theorem rd44_at {l : List S44} {i : Nat} (h : i < l.length) : rd_T44 l (i : Int) = l[i] := by
  unfold rd_T44
  simp [List.getD_eq_getElem?_getD, h]

def inr (s : S44) : Bool := decide (1 ≤ s.f0 ∧ s.f0 ≤ 7) && decide (0 ≤ s.f1 ∧ s.f1 ≤ 1018)
def dupI (l : List S44) (i : Nat) : Nat → Nat → Bool
  | 0, _ => false
  | n + 1, j => ((rd_T44 l (j : Int)).f0 == (rd_T44 l (i : Int)).f0) || dupI l i n (j + 1)
def good (l : List S44) : Nat → Nat → Bool
  | 0, _ => true
  | n + 1, i => inr (rd_T44 l (i : Int)) && !(dupI l i i 0) && good l n (i + 1)
/-- Are these shares? -/
def ARE (l : List S44) : Bool := decide ((1 : Int) ≤ (l.length : Int) ∧ (l.length : Int) ≤ 7) && good l l.length 0
theorem dupI_iff (l : List S44) (i : Nat) : ∀ n b, dupI l i n b = true ↔ ∃ j, b ≤ j ∧ j < b + n ∧ (rd_T44 l (j : Int)).f0 = (rd_T44 l (i : Int)).f0 := by
  intro n
  induction n with
  | zero => intro b; simp only [dupI]; exact ⟨fun h => by simp at h, fun ⟨j, h1, h2, _⟩ => by omega⟩
  | succ n ih =>
    intro b
    simp only [dupI, Bool.or_eq_true, beq_iff_eq, ih]
    constructor
    · rintro (h | ⟨j, h1, h2, h3⟩)
      · exact ⟨b, by omega, by omega, h⟩
      · exact ⟨j, by omega, by omega, h3⟩
    · rintro ⟨j, h1, h2, h3⟩
      by_cases e : j = b
      · exact .inl (by rw [← e]; exact h3)
      · exact .inr ⟨j, by omega, by omega, h3⟩
theorem good_at (l : List S44) : ∀ n i, good l n i = true → ∀ j, i ≤ j → j < i + n → inr (rd_T44 l (j : Int)) = true := by
  intro n
  induction n with
  | zero => intro i _ j h1 h2; omega
  | succ n ih =>
    intro i h j h1 h2
    simp only [good, Bool.and_eq_true] at h
    by_cases e : j = i
    · rw [e]; exact h.1.1
    · exact ih (i + 1) h.2 j (by omega) (by omega)
theorem ARE_len {l : List S44} (h : ARE l = true) : 1 ≤ l.length ∧ l.length ≤ 7 := by
  unfold ARE at h
  simp only [Bool.and_eq_true, decide_eq_true_eq] at h
  omega
theorem ARE_at {l : List S44} (h : ARE l = true) {i : Nat} (hi : i < l.length) : (1 ≤ (rd_T44 l (i : Int)).f0 ∧ (rd_T44 l (i : Int)).f0 ≤ 7) ∧ (0 ≤ (rd_T44 l (i : Int)).f1 ∧ (rd_T44 l (i : Int)).f1 ≤ 1018) := by
  unfold ARE at h
  rw [Bool.and_eq_true] at h
  have := good_at l _ _ h.2 i (by omega) (by omega)
  unfold inr at this
  simpa only [Bool.and_eq_true, decide_eq_true_eq] using this

def idx (l : List S44) : List Int := l.map fun x => x.f0
theorem idx_length (l : List S44) : (idx l).length = l.length := by unfold idx; simp
def IS (v w : Int) : Int → Int := fun s => (s + v * w) % 1019
/-- Sum of the values times the weights, from i on. -/
def IP (l : List S44) (ix : List Int) (p : Int) : Nat → Nat → Int → Int
  | 0, _, s => s
  | n + 1, i, s => IP l ix p n (i + 1) ((s + (rd_T44 l (i : Int)).f1 * LW ix (i : Int) p) % 1019)
def IT (l : List S44) (p : Int) : Int × Bool := if ARE l = true then (IP l (idx l) p l.length 0 0, true) else (0, false)
theorem sum_go {s v w : Int} (s0 : 0 ≤ s) (s1 : s < 1019) (v0 : 0 ≤ v) (v1 : v ≤ 1018) (w0 : 0 ≤ w) (w1 : w < 1019) : Int.tmod (wrap64 (s + wrap64 (v * w))) 1019 = (s + v * w) % 1019 := by
  have h0 : 0 ≤ v * w := Int.mul_nonneg v0 w0
  have h1 : v * w ≤ 1018 * 1019 := Int.mul_le_mul v1 (by omega) w0 (by omega)
  rw [w64 (n := v * w) (by omega) (by omega), w64 (by omega) (by omega), Int.tmod_eq_emod_of_nonneg (by omega)]
theorem emod_rng (x : Int) : 0 ≤ x % 1019 ∧ x % 1019 < 1019 := ⟨Int.emod_nonneg _ (by omega), Int.emod_lt_of_pos _ (by omega)⟩

def RF (l : List S44) (c : List Int) : List S44 := if ARE l = true then l.map fun x => ⟨x.f0, (x.f1 + PO 0 c x.f0) % 1019⟩ else []
theorem RF_length (l : List S44) (c : List Int) : (RF l c).length ≤ 7 := by
  unfold RF
  by_cases h : ARE l = true
  · rw [if_pos h, List.length_map]; exact (ARE_len h).2
  · rw [if_neg h]; simp
theorem PO_rng (s : Int) (c : List Int) (x : Int) : 0 ≤ PO s c x ∧ PO s c x < 1019 := emod_rng _
theorem add_go {x y : Int} (x0 : 0 ≤ x) (x1 : x ≤ 1018) (y0 : 0 ≤ y) (y1 : y < 1019) : Int.tmod (wrap64 (x + y)) 1019 = (x + y) % 1019 := by
  rw [w64 (by omega) (by omega), Int.tmod_eq_emod_of_nonneg (by omega)]
theorem rd55_at {l : List S55} {i : Nat} (h : i < l.length) : rd_T55 l (i : Int) = l[i] := by
  unfold rd_T55
  simp [List.getD_eq_getElem?_getD, h]
theorem laws_szShareS_big (l : List S55) (hl : l.length ≤ 9223372036854775807) (h : 1048576 < l.length) : laws_szShareS.f l 1048576 = some (-1) := by
  unfold laws_szShareS.f
  rw [w64 (by omega) (by omega), if_pos (by omega)]
theorem laws_szShareS_ok (l : List S55) (h : l.length ≤ 1048576) : laws_szShareS.f l 1048576 = some (1048576 - (l.length : Int)) := by
  unfold laws_szShareS.f
  rw [w64 (by omega) (by omega), if_neg (by omega)]

def CV (l : List S55) : List S44 := l.map fun x => ⟨x.f0, x.f1⟩
theorem CV_length (l : List S55) : (CV l).length = l.length := by unfold CV; simp
theorem laws_toShareS_l0 (l : List S55) (hl : l.length ≤ 4611686018427387904) : ∀ (j k i : Nat) (x : List S44), l.length - i ≤ j → j < k → x.length = l.length → (∀ p, p < i → x[p]? = (CV l)[p]?) → laws_toShareS.l0 k l x (i : Int) = some (CV l) := by
  intro j
  induction j with
  | zero =>
    intro k i x hi hk hx hp
    obtain ⟨k, rfl⟩ : ∃ m, k = m + 1 := ⟨k - 1, by omega⟩
    simp only [laws_toShareS.l0]
    rw [if_neg (by omega)]
    congr 1
    apply List.ext_getElem?
    intro p
    by_cases h : p < i
    · exact hp p h
    · rw [List.getElem?_eq_none (by omega), List.getElem?_eq_none (by rw [CV_length]; omega)]
  | succ j ih =>
    intro k i x hi hk hx hp
    obtain ⟨k, rfl⟩ : ∃ m, k = m + 1 := ⟨k - 1, by omega⟩
    simp only [laws_toShareS.l0, laws_toShare.f, Option.bind_some]
    by_cases h : i < l.length
    · rw [if_pos (by omega), if_pos (by omega), if_pos (by omega), nxt (by omega), rd55_at h]
      refine ih k (i + 1) _ (by omega) (by omega) (by rw [List.length_set]; exact hx) (fun p hpi => ?_)
      rw [show ((i : Int)).toNat = i from rfl, List.getElem?_set]
      by_cases e : i = p
      · subst e
        rw [if_pos (by simp), if_pos (by omega)]
        unfold CV
        rw [List.getElem?_map, List.getElem?_eq_getElem h]; rfl
      · rw [if_neg e]
        exact hp p (by omega)
    · rw [if_neg (by omega)]
      congr 1
      apply List.ext_getElem?
      intro p
      by_cases h : p < i
      · exact hp p h
      · rw [List.getElem?_eq_none (by omega), List.getElem?_eq_none (by rw [CV_length]; omega)]
theorem laws_toShareS_eq {k : Nat} (l : List S55) (hl : l.length ≤ 1048576) (hk : 1048576 < k) : laws_toShareS.f k l = some (CV l) := by
  unfold laws_toShareS.f
  rw [if_pos (by omega), if_pos (by omega)]
  exact laws_toShareS_l0 l (by omega) l.length k 0 _ (by omega) (by omega) (by simp) (fun p hp => by omega)

theorem laws_eqShare_self (a b : Int) : laws_eqShare.f a b a b = some true := by
  unfold laws_eqShare.f
  rw [if_pos rfl, if_pos rfl]
theorem laws_eqShareS_l0 (a : List S44) (hm : a.length ≤ 1048576) : ∀ (j k i : Nat), a.length - i ≤ j → j < k → laws_eqShareS.l0 k a a (i : Int) = some true := by
  intro j
  induction j with
  | zero =>
    intro k i hi hk
    obtain ⟨k, rfl⟩ : ∃ m, k = m + 1 := ⟨k - 1, by omega⟩
    simp only [laws_eqShareS.l0]
    rw [if_neg (by omega)]
  | succ j ih =>
    intro k i hi hk
    obtain ⟨k, rfl⟩ : ∃ m, k = m + 1 := ⟨k - 1, by omega⟩
    simp only [laws_eqShareS.l0]
    by_cases h : i < a.length
    · rw [if_pos (by omega), if_pos (by omega), if_pos (by omega), nxt (by omega), laws_eqShare_self]; simp only [Option.bind_some]
      rw [if_pos trivial, ih k (i + 1) (by omega) (by omega)]
    · rw [if_neg (by omega)]
theorem laws_eqShareS_self {k : Nat} (a : List S44) (hm : a.length ≤ 1048576) (hk : a.length < k) : laws_eqShareS.f k a a = some true := by
  unfold laws_eqShareS.f
  rw [if_pos rfl]
  exact laws_eqShareS_l0 a hm a.length k 0 (by omega) hk
theorem laws_toIntS_l0 (l : List Int) (hl : l.length ≤ 4611686018427387904) : ∀ (j k i : Nat) (x : List Int), l.length - i ≤ j → j < k → x.length = l.length → (∀ p, p < i → x[p]? = l[p]?) → laws_toIntS.l0 k l x (i : Int) = some l := by
  intro j
  induction j with
  | zero =>
    intro k i x hi hk hx hp
    obtain ⟨k, rfl⟩ : ∃ m, k = m + 1 := ⟨k - 1, by omega⟩
    simp only [laws_toIntS.l0]
    rw [if_neg (by omega)]
    congr 1
    apply List.ext_getElem?
    intro p
    by_cases h : p < i
    · exact hp p h
    · rw [List.getElem?_eq_none (by omega), List.getElem?_eq_none (by omega)]
  | succ j ih =>
    intro k i x hi hk hx hp
    obtain ⟨k, rfl⟩ : ∃ m, k = m + 1 := ⟨k - 1, by omega⟩
    simp only [laws_toIntS.l0]
    by_cases h : i < l.length
    · rw [if_pos (by omega), if_pos (by omega), if_pos (by omega), nxt (by omega), rd_at h]
      refine ih k (i + 1) _ (by omega) (by omega) (by rw [List.length_set]; exact hx) (fun p hpi => ?_)
      rw [show ((i : Int)).toNat = i from rfl, List.getElem?_set]
      by_cases e : i = p
      · subst e
        rw [if_pos (by simp), if_pos (by omega), List.getElem?_eq_getElem h]
      · rw [if_neg e]
        exact hp p (by omega)
    · rw [if_neg (by omega)]
      congr 1
      apply List.ext_getElem?
      intro p
      by_cases h : p < i
      · exact hp p h
      · rw [List.getElem?_eq_none (by omega), List.getElem?_eq_none (by omega)]
theorem laws_toIntS_eq {k : Nat} (l : List Int) (hl : l.length ≤ 1048576) (hk : 1048576 < k) : laws_toIntS.f k l = some l := by
  unfold laws_toIntS.f
  rw [if_pos (by omega), if_pos (by omega)]
  exact laws_toIntS_l0 l (by omega) l.length k 0 _ (by omega) (by omega) (by simp) (fun p hp => by omega)
theorem laws_eqIntS_l0 (a b : List Int) (hl : a.length = b.length) (hm : a.length ≤ 4611686018427387904) : ∀ (j k i : Nat), a.length - i ≤ j → j < k → laws_eqIntS.l0 k a b (i : Int) = some (decide (a.drop i = b.drop i)) := by
  intro j
  induction j with
  | zero =>
    intro k i hi hk
    obtain ⟨k, rfl⟩ : ∃ m, k = m + 1 := ⟨k - 1, by omega⟩
    simp only [laws_eqIntS.l0]
    rw [if_neg (by omega), List.drop_eq_nil_of_le (by omega), List.drop_eq_nil_of_le (by omega)]; simp
  | succ j ih =>
    intro k i hi hk
    obtain ⟨k, rfl⟩ : ∃ m, k = m + 1 := ⟨k - 1, by omega⟩
    simp only [laws_eqIntS.l0]
    by_cases h : i < a.length
    · have hb : i < b.length := by omega
      rw [if_pos (by omega), if_pos (by omega), if_pos (by omega), nxt (by omega), rd_at h, rd_at hb, ih k (i + 1) (by omega) (by omega), List.drop_eq_getElem_cons h, List.drop_eq_getElem_cons hb]
      by_cases e : a[i] = b[i]
      · rw [if_pos e]; congr 1; rw [decide_eq_decide]; exact ⟨fun h1 => by rw [e, h1], fun h1 => (List.cons.inj h1).2⟩
      · rw [if_neg e]; congr 1; symm; rw [decide_eq_false_iff_not]; exact fun h1 => e (List.cons.inj h1).1
    · rw [if_neg (by omega), List.drop_eq_nil_of_le (by omega), List.drop_eq_nil_of_le (by omega)]; simp
theorem laws_eqIntS_eq {k : Nat} (a b : List Int) (hm : a.length ≤ 4611686018427387904) (hk : a.length < k) : laws_eqIntS.f k a b = some (decide (a = b)) := by
  unfold laws_eqIntS.f
  by_cases h : a.length = b.length
  · rw [if_pos (by omega)]
    exact laws_eqIntS_l0 a b h hm a.length k 0 (by omega) hk
  · rw [if_neg (by omega)]
    have : a ≠ b := fun e => h (by rw [e])
    simp [this]
theorem laws_eqIntS_self {k : Nat} (a : List Int) (hm : a.length ≤ 1048576) (hk : 1048576 < k) : laws_eqIntS.f k a a = some true := by
  rw [laws_eqIntS_eq a a (by omega) (by omega)]; simp
theorem laws_markIntS_l0 (s : Int) (s0 : 0 ≤ s) (s1 : s ≤ 1000000000000) : ∀ (j k i : Nat) (x : List Int), x.length ≤ 1000000000000 → x.length - i ≤ j → j < k → i ≤ x.length → (∀ p, p < i → x[p]? = some (s + ((p : Nat) : Int))) →
    ∃ x', laws_markIntS.l0 k x (s + (i : Int)) (i : Int) = some (s + (x.length : Int), x') ∧ x'.length = x.length ∧ ∀ p, p < x.length → x'[p]? = some (s + ((p : Nat) : Int)) := by
  intro j
  induction j with
  | zero =>
    intro k i x hl hi hk hix hp
    obtain ⟨k, rfl⟩ : ∃ m, k = m + 1 := ⟨k - 1, by omega⟩
    simp only [laws_markIntS.l0]
    rw [if_neg (by omega), show (i : Int) = (x.length : Int) by omega]
    exact ⟨x, rfl, rfl, fun p h => hp p (by omega)⟩
  | succ j ih =>
    intro k i x hl hi hk hix hp
    obtain ⟨k, rfl⟩ : ∃ m, k = m + 1 := ⟨k - 1, by omega⟩
    simp only [laws_markIntS.l0]
    by_cases h : i < x.length
    · have e1 : wrap64 (s + (i : Int) + 1) = s + ((i + 1 : Nat) : Int) := by rw [w64 (by omega) (by omega)]; omega
      rw [if_pos (by omega), if_pos (by omega), e1, nxt (by omega), show ((i : Int)).toNat = i from rfl]
      have hih := ih k (i + 1) (x.set i (s + ((i : Nat) : Int))) (by rw [List.length_set]; exact hl) (by rw [List.length_set]; omega) (by omega) (by rw [List.length_set]; omega) (fun p hpi => by
        rw [List.getElem?_set]
        by_cases e : i = p
        · subst e; rw [if_pos rfl, if_pos h]
        · rw [if_neg e]; exact hp p (by omega))
      rw [List.length_set] at hih
      exact hih
    · rw [if_neg (by omega), show (i : Int) = (x.length : Int) by omega]
      exact ⟨x, rfl, rfl, fun p h => hp p (by omega)⟩
theorem laws_markIntS_ok {k : Nat} (s : Int) (s0 : 0 ≤ s) (s1 : s ≤ 1000000000000) (x : List Int) (hl : x.length ≤ 1000000000000) (hk : x.length < k) :
    ∃ x', laws_markIntS.f k x s = some (s + (x.length : Int), x') ∧ x'.length = x.length ∧ ∀ p, p < x.length → x'[p]? = some (s + ((p : Nat) : Int)) := by
  unfold laws_markIntS.f
  have h := laws_markIntS_l0 s s0 s1 x.length k 0 x hl (by omega) hk (by omega) (fun p hp => by omega)
  rw [show s + ((0 : Nat) : Int) = s by omega] at h
  exact h
theorem laws_markShareS_l0 (s : Int) (s0 : 0 ≤ s) (s1 : s ≤ 1000000000000) : ∀ (j k i : Nat) (x : List S44), x.length ≤ 100000000000 → x.length - i ≤ j → j < k → i ≤ x.length → (∀ p, p < i → x[p]? = some ⟨s + 2 * ((p : Nat) : Int), s + 2 * ((p : Nat) : Int) + 1⟩) →
    ∃ x', laws_markShareS.l0 k x (s + 2 * (i : Int)) (i : Int) = some (s + 2 * (x.length : Int), x') ∧ x'.length = x.length ∧ ∀ p, p < x.length → x'[p]? = some ⟨s + 2 * ((p : Nat) : Int), s + 2 * ((p : Nat) : Int) + 1⟩ := by
  intro j
  induction j with
  | zero =>
    intro k i x hl hi hk hix hp
    obtain ⟨k, rfl⟩ : ∃ m, k = m + 1 := ⟨k - 1, by omega⟩
    simp only [laws_markShareS.l0]
    rw [if_neg (by omega), show (i : Int) = (x.length : Int) by omega]
    exact ⟨x, rfl, rfl, fun p h => hp p (by omega)⟩
  | succ j ih =>
    intro k i x hl hi hk hix hp
    obtain ⟨k, rfl⟩ : ∃ m, k = m + 1 := ⟨k - 1, by omega⟩
    simp only [laws_markShareS.l0, Option.bind_some]
    by_cases h : i < x.length
    · have e1 : wrap64 (s + 2 * (i : Int) + 1) = s + 2 * (i : Int) + 1 := w64 (by omega) (by omega)
      have e2 : wrap64 (s + 2 * (i : Int) + 1 + 1) = s + 2 * ((i + 1 : Nat) : Int) := by rw [w64 (by omega) (by omega)]; omega
      rw [if_pos (by omega), if_pos (by omega), e1, e2, nxt (by omega), show ((i : Int)).toNat = i from rfl, List.set_set, rd44_at (by rw [List.length_set]; exact h), List.getElem_set_self]
      have hih := ih k (i + 1) (x.set i ⟨s + 2 * (i : Int), s + 2 * (i : Int) + 1⟩) (by rw [List.length_set]; exact hl) (by rw [List.length_set]; omega) (by omega) (by rw [List.length_set]; omega) (fun p hpi => by
        rw [List.getElem?_set]
        by_cases e : i = p
        · subst e; rw [if_pos rfl, if_pos h]
        · rw [if_neg e]; exact hp p (by omega))
      rw [List.length_set] at hih
      exact hih
    · rw [if_neg (by omega), show (i : Int) = (x.length : Int) by omega]
      exact ⟨x, rfl, rfl, fun p h => hp p (by omega)⟩
theorem laws_markShareS_ok {k : Nat} (s : Int) (s0 : 0 ≤ s) (s1 : s ≤ 1000000000000) (x : List S44) (hl : x.length ≤ 100000000000) (hk : x.length < k) :
    ∃ x', laws_markShareS.f k x s = some (s + 2 * (x.length : Int), x') ∧ x'.length = x.length ∧ ∀ p, p < x.length → x'[p]? = some ⟨s + 2 * ((p : Nat) : Int), s + 2 * ((p : Nat) : Int) + 1⟩ := by
  unfold laws_markShareS.f
  have h := laws_markShareS_l0 s s0 s1 x.length k 0 x hl (by omega) hk (by omega) (fun p hp => by omega)
  rw [show s + 2 * ((0 : Nat) : Int) = s by omega] at h
  exact h
theorem laws_heldShareS_l0 (s : Int) (s0 : 0 ≤ s) (s1 : s ≤ 1000000000000) (x : List S44) (n : Nat) (hn : x.length = n) (hl : n ≤ 100000000000) (hp : ∀ p, p < n → x[p]? = some ⟨s + 2 * ((p : Nat) : Int), s + 2 * ((p : Nat) : Int) + 1⟩) : ∀ (j k i : Nat), n - i ≤ j → j < k → i ≤ n → laws_heldShareS.l0 k x (s + 2 * (i : Int)) (i : Int) = some (s + 2 * (n : Int)) := by
  intro j
  induction j with
  | zero =>
    intro k i hi hk hin
    obtain ⟨k, rfl⟩ : ∃ m, k = m + 1 := ⟨k - 1, by omega⟩
    simp only [laws_heldShareS.l0]
    rw [if_neg (by omega), show i = n by omega]
  | succ j ih =>
    intro k i hi hk hin
    obtain ⟨k, rfl⟩ : ∃ m, k = m + 1 := ⟨k - 1, by omega⟩
    simp only [laws_heldShareS.l0]
    by_cases h : i < n
    · have e1 : wrap64 (s + 2 * (i : Int) + 1) = s + 2 * (i : Int) + 1 := w64 (by omega) (by omega)
      have e2 : wrap64 (s + 2 * (i : Int) + 1 + 1) = s + 2 * ((i + 1 : Nat) : Int) := by rw [w64 (by omega) (by omega)]; omega
      have h' : i < x.length := by omega
      have e3 : x[i] = ⟨s + 2 * (i : Int), s + 2 * (i : Int) + 1⟩ := by
        have := hp i h
        rw [List.getElem?_eq_getElem h'] at this
        exact Option.some.inj this
      rw [if_pos (by omega), if_pos (by omega), e1, e2, nxt (by omega), rd44_at h', e3, if_pos rfl, if_pos rfl]
      exact ih k (i + 1) (by omega) (by omega) (by omega)
    · rw [if_neg (by omega), show i = n by omega]
theorem laws_heldShareS_ok {k : Nat} (s : Int) (s0 : 0 ≤ s) (s1 : s ≤ 1000000000000) (x : List S44) (n : Nat) (hn : x.length = n) (hl : n ≤ 100000000000) (hk : n < k) (hp : ∀ p, p < n → x[p]? = some ⟨s + 2 * ((p : Nat) : Int), s + 2 * ((p : Nat) : Int) + 1⟩) : laws_heldShareS.f k x s = some (s + 2 * (n : Int)) := by
  unfold laws_heldShareS.f
  have h := laws_heldShareS_l0 s s0 s1 x n hn hl hp n k 0 (by omega) hk (by omega)
  rw [show s + 2 * ((0 : Nat) : Int) = s by omega] at h
  exact h
theorem spec_l1In_eq (a b c : Int) : spec_l1In.f a b c = some (decide (b ≤ a ∧ a ≤ c)) := by
  unfold spec_l1In.f
  by_cases h : b ≤ a
  · rw [if_pos h]; simp [h]
  · rw [if_neg (by omega)]; simp [h]
theorem spec_AreShares_row (l : List S44) (a : Nat) (ha : a < l.length) (hl : l.length ≤ 1048576) : ∀ (n b k : Nat), b + n = a → spec_AreShares.l1 (k + n + 1) l (a : Int) (b : Int) = if dupI l a n b = true then some false else spec_AreShares.l0 k l ((a + 1 : Nat) : Int) := by
  intro n
  induction n with
  | zero =>
    intro b k hb
    obtain rfl : b = a := by omega
    conv => lhs; simp only [spec_AreShares.l1]
    rw [if_neg (by omega), nxt (by omega)]; simp [dupI]
  | succ n ih =>
    intro b k hb
    obtain ⟨m, hm⟩ : ∃ m, m = k + n + 1 := ⟨_, rfl⟩
    have hih := ih (b + 1) k (by omega)
    rw [← hm] at hih
    rw [show k + (n + 1) + 1 = m + 1 by omega]
    conv => lhs; simp only [spec_AreShares.l1]
    rw [if_pos (by omega), if_pos (by omega), if_pos (by omega), if_pos (by omega), if_pos (by omega), nxt (by omega), hih]
    rw [show dupI l a (n + 1) b = ((rd_T44 l (b : Int)).f0 == (rd_T44 l (a : Int)).f0 || dupI l a n (b + 1)) from rfl]
    by_cases h : (rd_T44 l (b : Int)).f0 = (rd_T44 l (a : Int)).f0
    · rw [if_pos h, if_pos (by simp [h])]
    · have e : ((rd_T44 l (b : Int)).f0 == (rd_T44 l (a : Int)).f0) = false := by simpa using h
      rw [if_neg h, e, Bool.false_or]
theorem spec_AreShares_l0 (l : List S44) (hl : l.length ≤ 1048576) : ∀ (n i k : Nat), i + n = l.length → n * 2000000 + 100 ≤ k → spec_AreShares.l0 k l (i : Int) = some (decide ((1 : Int) ≤ (l.length : Int) ∧ (l.length : Int) ≤ 7) && good l n i) := by
  intro n
  induction n with
  | zero =>
    intro i k hi hk
    obtain ⟨k, rfl⟩ : ∃ m, k = m + 1 := ⟨k - 1, by omega⟩
    simp only [spec_AreShares.l0, good, Bool.and_true]
    rw [if_neg (by omega), spec_l1In_eq]; rfl
  | succ n ih =>
    intro i k hi hk
    rw [Nat.succ_mul] at hk
    generalize hq : n * 2000000 = q at hk
    obtain ⟨k, rfl⟩ : ∃ m, k = (m + i + 1) + 1 + 1 := ⟨k - i - 3, by omega⟩
    have hk2 : q + 100 ≤ k := by omega
    rw [← hq] at hk2
    have hrow := spec_AreShares_row l i (by omega) hl i 0 k (by omega)
    rw [show ((0 : Nat) : Int) = 0 from rfl] at hrow
    generalize k + i + 1 = q1 at hrow
    simp only [spec_AreShares.l0, spec_AreShares.j1]
    rw [if_pos (by omega), if_pos (by omega), spec_l1In_eq]; simp only [Option.bind_some]
    rw [show good l (n + 1) i = (inr (rd_T44 l (i : Int)) && !(dupI l i i 0) && good l n (i + 1)) from rfl]
    have einr : inr (rd_T44 l (i : Int)) = (decide (1 ≤ (rd_T44 l (i : Int)).f0 ∧ (rd_T44 l (i : Int)).f0 ≤ 7) && decide (0 ≤ (rd_T44 l (i : Int)).f1 ∧ (rd_T44 l (i : Int)).f1 ≤ 1018)) := rfl
    rw [einr]
    cases h1 : decide (1 ≤ (rd_T44 l (i : Int)).f0 ∧ (rd_T44 l (i : Int)).f0 ≤ 7) with
    | false => simp
    | true =>
      rw [if_pos rfl, spec_l1In_eq]; simp only [Option.bind_some]
      cases h2 : decide (0 ≤ (rd_T44 l (i : Int)).f1 ∧ (rd_T44 l (i : Int)).f1 ≤ 1018) with
      | false => simp
      | true =>
        rw [if_neg (by simp), hrow, ih (i + 1) k (by omega) hk2]
        cases h3 : dupI l i i 0 with
        | true => simp
        | false => simp
theorem spec_AreShares_eq {k : Nat} (hk : 5000000000000 ≤ k) (l : List S44) (hl : l.length ≤ 1048576) : spec_AreShares.f k l = some (ARE l) := by
  unfold spec_AreShares.f ARE
  exact spec_AreShares_l0 l hl l.length 0 k (by omega) (by omega)
theorem spec_Mod_eq (a m : Int) (h1 : 1 ≤ m) (h2 : m ≤ 1000000000000) : spec_Mod.f a m = some (a % m) := by
  unfold spec_Mod.f
  rw [spec_l1In_eq]; simp only [Option.bind_some]
  rw [if_pos (by simp; omega), if_neg (by omega), tmod_fix h1 h2]
theorem spec_Mod_out (a m : Int) (h : ¬ (1 ≤ m ∧ m ≤ 1000000000000)) : spec_Mod.f a m = some 0 := by
  unfold spec_Mod.f
  rw [spec_l1In_eq]; simp only [Option.bind_some]
  rw [if_neg (by simpa using h)]
theorem spec_l5Mod_eq (a : Int) : spec_l5Mod.f a = some (a % 1019) := by
  unfold spec_l5Mod.f
  rw [spec_Mod_eq a 1019 (by omega) (by omega)]; rfl
theorem spec_l5Poly_l0 (s : Int) (c : List Int) (x : Int) (x0 : 0 ≤ x) (x1 : x ≤ 1000000) (hc : c.length ≤ 1048576) : ∀ (i k : Nat) (v : Int), i ≤ c.length → i + 10 < k → v = (c.drop i).foldr (fun a v => (v + a % 1019) * x % 1019) 0 → 0 ≤ v → v < 1019 → spec_l5Poly.l0 k s c x v ((i : Int) - 1) = some (PO s c x) := by
  intro i
  induction i with
  | zero =>
    intro k v hi hk hv v0 v1
    obtain ⟨k, rfl⟩ : ∃ m, k = m + 1 := ⟨k - 1, by omega⟩
    simp only [spec_l5Poly.l0]
    rw [if_neg (by omega)]
    rw [spec_l5Mod_eq]; simp only [Option.bind_some]
    have s0 : 0 ≤ s % 1019 := Int.emod_nonneg _ (by omega)
    have s1 : s % 1019 < 1019 := Int.emod_lt_of_pos _ (by omega)
    rw [w64 (by omega) (by omega), Int.tmod_eq_emod_of_nonneg (by omega), hv]; rfl
  | succ i ih =>
    intro k v hi hk hv v0 v1
    obtain ⟨k, rfl⟩ : ∃ m, k = m + 1 := ⟨k - 1, by omega⟩
    simp only [spec_l5Poly.l0]
    rw [show ((i + 1 : Nat) : Int) - 1 = (i : Int) by omega, if_pos (by omega), if_pos (by omega), if_pos (by omega), spec_l5Mod_eq]; simp only [Option.bind_some]
    rw [rd_at (show i < c.length by omega), w64 (n := (i : Int) - 1) (by omega) (by omega)]
    have r0 : 0 ≤ c[i] % 1019 := Int.emod_nonneg _ (by omega)
    have r1 : c[i] % 1019 < 1019 := Int.emod_lt_of_pos _ (by omega)
    have hv2 : (v + c[i] % 1019) * x % 1019 = (c.drop i).foldr (fun a v => (v + a % 1019) * x % 1019) 0 := by
      rw [List.drop_eq_getElem_cons (show i < c.length by omega), List.foldr_cons, ← hv]
    generalize c[i] % 1019 = z at *
    have p0 : 0 ≤ (v + z) * x := Int.mul_nonneg (by omega) x0
    have p1 : (v + z) * x ≤ 2038 * 1000000 := Int.mul_le_mul (by omega) x1 x0 (by omega)
    rw [w64 (n := v + z) (by omega) (by omega), w64 (n := (v + z) * x) (by omega) (by omega), Int.tmod_eq_emod_of_nonneg p0]
    exact ih k _ (by omega) (by omega) hv2 (Int.emod_nonneg _ (by omega)) (Int.emod_lt_of_pos _ (by omega))
theorem spec_l5Poly_eq {k : Nat} (s : Int) (c : List Int) (x : Int) (x0 : 0 ≤ x) (x1 : x ≤ 1000000) (hc : c.length ≤ 1048576) (hk : c.length + 10 < k) : spec_l5Poly.f k s c x = some (PO s c x) := by
  unfold spec_l5Poly.f
  rw [w64 (by omega) (by omega)]
  exact spec_l5Poly_l0 s c x x0 x1 hc c.length k 0 (by omega) hk (by rw [List.drop_length]; rfl) (by omega) (by omega)
theorem spec_RefreshShares_l0 (l : List S44) (h : ARE l = true) (c : List Int) (hc : c.length ≤ 1048576) : ∀ (n i k : Nat) (acc : List S44), i + n = l.length → n + 2000000 < k → acc = (l.take i).map (fun x => ⟨x.f0, (x.f1 + PO 0 c x.f0) % 1019⟩) → spec_RefreshShares.l0 k l c acc (i : Int) = some (l.map fun x => ⟨x.f0, (x.f1 + PO 0 c x.f0) % 1019⟩) := by
  have hl := ARE_len h
  intro n
  induction n with
  | zero =>
    intro i k acc hi hk hacc
    obtain ⟨k, rfl⟩ : ∃ m, k = m + 1 := ⟨k - 1, by omega⟩
    simp only [spec_RefreshShares.l0]
    rw [if_neg (by omega), hacc, List.take_of_length_le (by omega)]
  | succ n ih =>
    intro i k acc hi hk hacc
    obtain ⟨k, rfl⟩ : ∃ m, k = m + 1 := ⟨k - 1, by omega⟩
    simp only [spec_RefreshShares.l0]
    have ha := ARE_at h (show i < l.length by omega)
    have hal : acc.length ≤ 7 := by rw [hacc, List.length_map, List.length_take]; omega
    have hp := PO_rng 0 c (rd_T44 l (i : Int)).f0
    rw [if_pos (by omega), if_pos (by omega), spec_l5Poly_eq 0 c _ (by omega) (by omega) hc (by omega)]; simp only [Option.bind_some]
    rw [if_pos (by omega), nxt (by omega), add_go ha.2.1 ha.2.2 hp.1 hp.2]
    refine ih (i + 1) k _ (by omega) (by omega) ?_
    rw [hacc, List.take_succ_eq_append_getElem (show i < l.length by omega), List.map_append, rd44_at (show i < l.length by omega)]; rfl

theorem spec_RefreshShares_eq {k : Nat} (hk : 10000000000000 ≤ k) (l : List S44) (hl : l.length ≤ 1048576) (c : List Int) (hc : c.length ≤ 1048576) : spec_RefreshShares.f k l c = some (RF l c) := by
  unfold spec_RefreshShares.f RF
  simp only [Option.bind_some]
  rw [spec_AreShares_eq (by omega) l hl]; simp only [Option.bind_some]
  by_cases h : ARE l = true
  · rw [if_pos h, if_pos h]
    exact spec_RefreshShares_l0 l h c hc l.length 0 k [] (by omega) (by have := ARE_len h; omega) rfl
  · rw [if_neg h, if_neg h]
theorem impl_InRange_eq (a b c : Int) : impl_InRange.f a b c = some (decide (b ≤ a ∧ a ≤ c)) := by
  unfold impl_InRange.f
  by_cases h : b ≤ a
  · rw [if_pos h]; simp [h]
  · rw [if_neg h]; simp [h]
theorem AS_good (l : List S44) : ∀ (n i : Nat) (L : List Bool), i + n = l.length → L.length = 8 → (∀ v : Nat, v < 8 → (L.getD v false = true ↔ ∃ j : Nat, j < i ∧ (rd_T44 l (j : Int)).f0 = (v : Int))) → AS L (l.drop i) = good l n i := by
  intro n
  induction n with
  | zero =>
    intro i L hi hL hv
    rw [List.drop_eq_nil_of_le (by omega)]; rfl
  | succ n ih =>
    intro i L hi hL hv
    rw [AS_at L (by omega)]
    have einr : inr (rd_T44 l (i : Int)) = (decide (1 ≤ (rd_T44 l (i : Int)).f0 ∧ (rd_T44 l (i : Int)).f0 ≤ 7) && decide (0 ≤ (rd_T44 l (i : Int)).f1 ∧ (rd_T44 l (i : Int)).f1 ≤ 1018)) := rfl
    have hd := dupI_iff l i i 0
    have ih' := ih (i + 1) (L.set (rd_T44 l (i : Int)).f0.toNat true) (by omega) (by rw [List.length_set]; exact hL)
    rw [show good l (n + 1) i = (inr (rd_T44 l (i : Int)) && !(dupI l i i 0) && good l n (i + 1)) from rfl, einr]
    by_cases h : (1 ≤ (rd_T44 l (i : Int)).f0 ∧ (rd_T44 l (i : Int)).f0 ≤ 7) ∧ (0 ≤ (rd_T44 l (i : Int)).f1 ∧ (rd_T44 l (i : Int)).f1 ≤ 1018)
    · rw [decide_eq_true h.1, decide_eq_true h.2, Bool.true_and, Bool.true_and]
      have hlt : (rd_T44 l (i : Int)).f0.toNat < 8 := by omega
      have hcast : ((rd_T44 l (i : Int)).f0.toNat : Int) = (rd_T44 l (i : Int)).f0 := by omega
      have hv1 := hv _ hlt
      rw [hcast] at hv1
      have hdv : dupI l i i 0 = L.getD (rd_T44 l (i : Int)).f0.toNat false := by
        rw [Bool.eq_iff_iff, hd, hv1]
        exact ⟨fun ⟨j, _, h2, h3⟩ => ⟨j, by omega, h3⟩, fun ⟨j, h2, h3⟩ => ⟨j, by omega, by omega, h3⟩⟩
      rw [hdv]
      cases hg : L.getD (rd_T44 l (i : Int)).f0.toNat false with
      | true => rw [if_neg (fun h2 => by simp at h2)]; rfl
      | false =>
        rw [if_pos ⟨h, rfl⟩, Bool.not_false, Bool.true_and]
        refine ih' (fun v hv8 => ?_)
        have e1 : (L.set (rd_T44 l (i : Int)).f0.toNat true).getD v false = if (rd_T44 l (i : Int)).f0.toNat = v then true else L.getD v false := by
          simp only [List.getD_eq_getElem?_getD, List.getElem?_set]
          by_cases e : (rd_T44 l (i : Int)).f0.toNat = v
          · rw [if_pos e, if_pos e, if_pos (by omega)]; rfl
          · rw [if_neg e, if_neg e]
        rw [e1]
        by_cases e : (rd_T44 l (i : Int)).f0.toNat = v
        · rw [if_pos e]
          exact ⟨fun _ => ⟨i, by omega, by omega⟩, fun _ => rfl⟩
        · rw [if_neg e, hv v hv8]
          constructor
          · rintro ⟨j, h1, h2⟩; exact ⟨j, by omega, h2⟩
          · rintro ⟨j, h1, h2⟩
            by_cases ej : j = i
            · subst ej; omega
            · exact ⟨j, by omega, h2⟩
    · rw [if_neg (fun h2 => h h2.1)]
      have : (decide (1 ≤ (rd_T44 l (i : Int)).f0 ∧ (rd_T44 l (i : Int)).f0 ≤ 7) && decide (0 ≤ (rd_T44 l (i : Int)).f1 ∧ (rd_T44 l (i : Int)).f1 ≤ 1018)) = false := by
        cases hb : (decide (1 ≤ (rd_T44 l (i : Int)).f0 ∧ (rd_T44 l (i : Int)).f0 ≤ 7) && decide (0 ≤ (rd_T44 l (i : Int)).f1 ∧ (rd_T44 l (i : Int)).f1 ≤ 1018)) with
        | false => rfl
        | true =>
          simp only [Bool.and_eq_true, decide_eq_true_eq] at hb
          exact absurd hb h
      rw [this]; rfl
theorem impl_AreShares_eq (k : Nat) (l : List S44) : impl_AreShares.f k l = some (ARE l) := by
  unfold impl_AreShares.f ARE
  have h := AS_good l l.length 0 [false, false, false, false, false, false, false, false] (by omega) rfl (fun v hv => by
    constructor
    · intro h
      exfalso
      match v, hv with
      | 0, _ => simp at h
      | 1, _ => simp at h
      | 2, _ => simp at h
      | 3, _ => simp at h
      | 4, _ => simp at h
      | 5, _ => simp at h
      | 6, _ => simp at h
      | 7, _ => simp at h
    · rintro ⟨j, h, _⟩; omega)
  rw [List.drop_zero] at h
  rw [h]
  by_cases hl : 1 ≤ l.length ∧ l.length ≤ 7
  · rw [if_pos hl, decide_eq_true (by omega), Bool.true_and]
  · rw [if_neg hl, decide_eq_false (by omega), Bool.false_and]
theorem impl_Mod_eq {k : Nat} (hk : 0 < k) (a m : Int) (h1 : 1 ≤ m) (h2 : m ≤ 1000000000000) : impl_Mod.f k a m = some (a % m) := by
  obtain ⟨k, rfl⟩ : ∃ j, k = j + 1 := ⟨k - 1, by omega⟩
  unfold impl_Mod.f
  rw [if_neg (by omega)]
  simp only [impl_Mod.j0]
  rw [if_neg (by simp; omega), if_neg (by omega), tmod_two a m h1 h2]
theorem impl_Mod_out {k : Nat} (hk : 0 < k) (a m : Int) (h : ¬ (1 ≤ m ∧ m ≤ 1000000000000)) : impl_Mod.f k a m = some 0 := by
  obtain ⟨k, rfl⟩ : ∃ j, k = j + 1 := ⟨k - 1, by omega⟩
  unfold impl_Mod.f
  by_cases h1 : m < 1
  · rw [if_pos h1]
    simp only [impl_Mod.j0]
    rw [if_pos (by simp)]
  · rw [if_neg h1]
    simp only [impl_Mod.j0]
    rw [if_pos (by simp; omega)]
theorem impl_polynomial_l0 (s : Int) (c : List Int) (x : Int) (x0 : 0 ≤ x) (x1 : x ≤ 1000000) (hc : c.length ≤ 1048576) : ∀ (i k : Nat) (v : Int), i ≤ c.length → i + 10 < k → v = (c.drop i).foldr (fun a v => (v + a % 1019) * x % 1019) 0 → 0 ≤ v → v < 1019 → impl_polynomial.l0 k s c x v ((i : Int) - 1) = some (PO s c x) := by
  intro i
  induction i with
  | zero =>
    intro k v hi hk hv v0 v1
    obtain ⟨k, rfl⟩ : ∃ m, k = m + 1 := ⟨k - 1, by omega⟩
    simp only [impl_polynomial.l0]
    rw [if_neg (by omega)]
    rw [impl_Mod_eq (by omega) _ 1019 (by omega) (by omega)]; simp only [Option.bind_some]
    rw [impl_Mod_eq (by omega) _ 1019 (by omega) (by omega)]; simp only [Option.bind_some]
    have s0 : 0 ≤ s % 1019 := Int.emod_nonneg _ (by omega)
    have s1 : s % 1019 < 1019 := Int.emod_lt_of_pos _ (by omega)
    rw [w64 (by omega) (by omega), hv]; rfl
  | succ i ih =>
    intro k v hi hk hv v0 v1
    obtain ⟨k, rfl⟩ : ∃ m, k = m + 1 := ⟨k - 1, by omega⟩
    simp only [impl_polynomial.l0]
    rw [show ((i + 1 : Nat) : Int) - 1 = (i : Int) by omega, if_pos (by omega), if_pos (by omega), if_pos (by omega), impl_Mod_eq (by omega) _ 1019 (by omega) (by omega)]; simp only [Option.bind_some]
    rw [rd_at (show i < c.length by omega), w64 (n := (i : Int) - 1) (by omega) (by omega)]
    have r0 : 0 ≤ c[i] % 1019 := Int.emod_nonneg _ (by omega)
    have r1 : c[i] % 1019 < 1019 := Int.emod_lt_of_pos _ (by omega)
    have hv2 : (v + c[i] % 1019) * x % 1019 = (c.drop i).foldr (fun a v => (v + a % 1019) * x % 1019) 0 := by
      rw [List.drop_eq_getElem_cons (show i < c.length by omega), List.foldr_cons, ← hv]
    generalize c[i] % 1019 = z at *
    have p0 : 0 ≤ (v + z) * x := Int.mul_nonneg (by omega) x0
    have p1 : (v + z) * x ≤ 2038 * 1000000 := Int.mul_le_mul (by omega) x1 x0 (by omega)
    rw [w64 (n := v + z) (by omega) (by omega), w64 (n := (v + z) * x) (by omega) (by omega), Int.tmod_eq_emod_of_nonneg p0]
    exact ih k _ (by omega) (by omega) hv2 (Int.emod_nonneg _ (by omega)) (Int.emod_lt_of_pos _ (by omega))
theorem impl_polynomial_eq {k : Nat} (s : Int) (c : List Int) (x : Int) (x0 : 0 ≤ x) (x1 : x ≤ 1000000) (hc : c.length ≤ 1048576) (hk : c.length + 10 < k) : impl_polynomial.f k s c x = some (PO s c x) := by
  unfold impl_polynomial.f
  rw [w64 (by omega) (by omega)]
  exact impl_polynomial_l0 s c x x0 x1 hc c.length k 0 (by omega) hk (by rw [List.drop_length]; rfl) (by omega) (by omega)
theorem impl_RefreshShares_l0 (l : List S44) (h : ARE l = true) (c : List Int) (hc : c.length ≤ 1048576) : ∀ (n i k : Nat) (acc : List S44), i + n = l.length → n + 2000000 < k → acc = (l.take i).map (fun x => ⟨x.f0, (x.f1 + PO 0 c x.f0) % 1019⟩) → impl_RefreshShares.l0 k c acc l (l.length : Int) (i : Int) = some (l.map fun x => ⟨x.f0, (x.f1 + PO 0 c x.f0) % 1019⟩) := by
  have hl := ARE_len h
  intro n
  induction n with
  | zero =>
    intro i k acc hi hk hacc
    obtain ⟨k, rfl⟩ : ∃ m, k = m + 1 := ⟨k - 1, by omega⟩
    simp only [impl_RefreshShares.l0]
    rw [if_neg (by omega), hacc, List.take_of_length_le (by omega)]
  | succ n ih =>
    intro i k acc hi hk hacc
    obtain ⟨k, rfl⟩ : ∃ m, k = m + 1 := ⟨k - 1, by omega⟩
    simp only [impl_RefreshShares.l0]
    have ha := ARE_at h (show i < l.length by omega)
    have hal : acc.length ≤ 7 := by rw [hacc, List.length_map, List.length_take]; omega
    have hp := PO_rng 0 c (rd_T44 l (i : Int)).f0
    rw [if_pos (by omega), if_pos (by omega), if_pos (by omega), impl_polynomial_eq 0 c _ (by omega) (by omega) hc (by omega)]; simp only [Option.bind_some]
    rw [if_pos (by omega), nxt (by omega), add_go ha.2.1 ha.2.2 hp.1 hp.2]
    refine ih (i + 1) k _ (by omega) (by omega) ?_
    rw [hacc, List.take_succ_eq_append_getElem (show i < l.length by omega), List.map_append, rd44_at (show i < l.length by omega)]; rfl

theorem impl_RefreshShares_eq {k : Nat} (hk : 10000000000000 ≤ k) (l : List S44) (c : List Int) (hc : c.length ≤ 1048576) : impl_RefreshShares.f k l c = some (RF l c) := by
  unfold impl_RefreshShares.f RF
  rw [impl_AreShares_eq k l]; simp only [Option.bind_some]
  by_cases h : ARE l = true
  · rw [if_pos h, if_pos h]
    exact impl_RefreshShares_l0 l h c hc l.length 0 k [] (by omega) (by have := ARE_len h; omega) rfl
  · rw [if_neg h, if_neg h]
theorem proved : laws_FnExactRefreshShares.Pure := by
  intro l0 hmax l1 _ _
  obtain ⟨K, hK⟩ : ∃ K : Nat, 20000000000000 ≤ K := ⟨_, Nat.le_refl _⟩
  refine ⟨K, ?_⟩
  unfold laws_FnExactRefreshShares.f
  rcases Nat.lt_or_ge 1048576 l1.length with h_l1 | h_l1
  · rw [if_pos (by omega)]
  rw [if_neg (by omega)]
  rcases Nat.lt_or_ge 1048576 l0.length with h_l0 | h_l0
  · rw [laws_szShareS_big l0 hmax h_l0]; simp only [Option.bind_some]
    rw [if_pos (by omega)]
  rw [laws_szShareS_ok l0 h_l0]; simp only [Option.bind_some]
  rw [if_neg (by omega)]
  have hcl := CV_length l0
  have hto : ∀ k, 100000000 ≤ k → laws_toShareS.f k l0 = some (CV l0) := fun k hk => laws_toShareS_eq l0 h_l0 (by omega)
  have htoi : ∀ k, 100000000 ≤ k → laws_toIntS.f k l1 = some l1 := fun k hk => laws_toIntS_eq l1 h_l1 (by omega)
  have hs : spec_RefreshShares.f K (CV l0) l1 = some (RF (CV l0) l1) := spec_RefreshShares_eq (by omega) (CV l0) (by omega) l1 h_l1
  have hi : ∀ k, 10000000000000 ≤ k → impl_RefreshShares.f k (CV l0) l1 = some (RF (CV l0) l1) := fun k hk => impl_RefreshShares_eq hk (CV l0) l1 h_l1
  have hlen := RF_length (CV l0) l1
  generalize RF (CV l0) l1 = r at *
  have hq : ∀ k, 100000000 ≤ k → laws_eqShareS.f k r r = some true := fun k hk => laws_eqShareS_self r (by omega) (by omega)
  have hm : ∀ k, 100000000 ≤ k → ∃ r', laws_markShareS.f k r 1 = some (1 + 2 * (r.length : Int), r') ∧ ∀ k', 100000000 ≤ k' → laws_heldShareS.f k' r' 1 = some (1 + 2 * (r.length : Int)) := by
    intro k hk
    obtain ⟨r', e1, e2, e3⟩ := laws_markShareS_ok (k := k) 1 (by omega) (by omega) r (by omega) (by omega)
    exact ⟨r', e1, fun k' hk' => laws_heldShareS_ok 1 (by omega) (by omega) r' r.length e2 (by omega) (by omega) e3⟩
  have hnr : ¬ (1 + 2 * (r.length : Int) < 0) := by omega
  have hn1 : ¬ (1 + 2 * ((CV l0).length : Int) + (l1.length : Int) < 0) := by omega
  have hj : laws_FnExactRefreshShares.j0 K l0 l1 r r false = some true := by
    obtain ⟨k, rfl⟩ : ∃ j, K = j + 1 := ⟨K - 1, by omega⟩
    obtain ⟨r', e1, e2⟩ := hm k (by omega)
    simp only [laws_FnExactRefreshShares.j0]
    rw [if_neg (by simp)]
    simp only [e1, e2 k (by omega), hto k (by omega), htoi k (by omega), hi k (by omega), hq k (by omega), Option.bind_some]
    simp only [↓reduceIte, hnr]
  obtain ⟨x, ex, _⟩ := laws_markShareS_ok (k := K) 1 (by omega) (by omega) (CV l0) (by omega) (by omega)
  obtain ⟨y, ey, _⟩ := laws_markIntS_ok (k := K) (1 + 2 * ((CV l0).length : Int)) (by omega) (by omega) l1 (by omega) (by omega)
  simp only [hto K (by omega), htoi K (by omega), hs, hi K (by omega), hq K (by omega), laws_eqShareS_self (k := K) (CV l0) (by omega) (by omega), laws_eqIntS_self (k := K) l1 h_l1 (by omega), ex, ey, Option.bind_some]
  simp only [↓reduceIte, hn1, Bool.not_true, hj]
end KFnExactRefreshShares
theorem FnExactRefreshShares : laws_FnExactRefreshShares.Pure := KFnExactRefreshShares.proved
end Go.Proofs.Ytclfiaafeaocjaa.Pure
