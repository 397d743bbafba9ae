/- shares of a secret give it back, whichever are taken, also after a refreshing. -/
import Derived.Test.YtclfiaafeaocjaaPFnSharesx4
import Derived.Test.YtclfiaafeaocjaaNum5
set_option linter.unusedVariables false
set_option linter.unusedSimpArgs false
namespace Go.Proofs.Ytclfiaafeaocjaa.Pure
open Go.RowKit Go.Proofs.Ytclfiaafeaocjaa.PFnShares Go.Proofs.YtclfiaafeaocjaaW.PrintWords Go.Proofs.YtclfiaafeaocjaaW.PrintLast Go.Proofs.Ytclfiaafeaocjaa.Num
namespace KFnShares
theorem rd44_at {l : List S44} {i : Nat} (h : i < l.length) : rd_T44 l (i : Int) = l[i] := by
  unfold rd_T44
  simp [List.getD_eq_getElem?_getD, h]

def SL (s : Int) (c : List Int) : Nat → Nat → List S44
  | 0, _ => []
  | d + 1, x => ⟨(x : Int), PO s c (x : Int)⟩ :: SL s c d (x + 1)
def SH (s : Int) (c : List Int) (n : Int) : List S44 := if (1 ≤ n ∧ n ≤ 7) ∧ (c.length : Int) < n then SL s c n.toNat 1 else []
theorem SL_length (s : Int) (c : List Int) : ∀ d x, (SL s c d x).length = d := by
  intro d
  induction d with
  | zero => intro x; rfl
  | succ d ih => intro x; simp only [SL, List.length_cons, ih]
theorem SH_length (s : Int) (c : List Int) (n : Int) : (SH s c n).length ≤ 7 := by
  unfold SH
  split
  · rw [SL_length]; omega
  · simp

def inr (s : S44) : Bool := decide (1 ≤ s.f0 ∧ s.f0 ≤ 7) && decide (0 ≤ s.f1 ∧ s.f1 ≤ 1018)
def dupI (l : List S44) (i : Nat) : Nat → Nat → Bool
  | 0, _ => false
  | n + 1, j => ((rd_T44 l (j : Int)).f0 == (rd_T44 l (i : Int)).f0) || dupI l i n (j + 1)
def good (l : List S44) : Nat → Nat → Bool
  | 0, _ => true
  | n + 1, i => inr (rd_T44 l (i : Int)) && !(dupI l i i 0) && good l n (i + 1)
/-- Are these shares? -/
def ARE (l : List S44) : Bool := decide ((1 : Int) ≤ (l.length : Int) ∧ (l.length : Int) ≤ 7) && good l l.length 0
theorem dupI_iff (l : List S44) (i : Nat) : ∀ n b, dupI l i n b = true ↔ ∃ j, b ≤ j ∧ j < b + n ∧ (rd_T44 l (j : Int)).f0 = (rd_T44 l (i : Int)).f0 := by
  intro n
  induction n with
  | zero => intro b; simp only [dupI]; exact ⟨fun h => by simp at h, fun ⟨j, h1, h2, _⟩ => by omega⟩
  | succ n ih =>
    intro b
    simp only [dupI, Bool.or_eq_true, beq_iff_eq, ih]
    constructor
    · rintro (h | ⟨j, h1, h2, h3⟩)
      · exact ⟨b, by omega, by omega, h⟩
      · exact ⟨j, by omega, by omega, h3⟩
    · rintro ⟨j, h1, h2, h3⟩
      by_cases e : j = b
      · exact .inl (by rw [← e]; exact h3)
      · exact .inr ⟨j, by omega, by omega, h3⟩
theorem good_at (l : List S44) : ∀ n i, good l n i = true → ∀ j, i ≤ j → j < i + n → inr (rd_T44 l (j : Int)) = true := by
  intro n
  induction n with
  | zero => intro i _ j h1 h2; omega
  | succ n ih =>
    intro i h j h1 h2
    simp only [good, Bool.and_eq_true] at h
    by_cases e : j = i
    · rw [e]; exact h.1.1
    · exact ih (i + 1) h.2 j (by omega) (by omega)
theorem ARE_len {l : List S44} (h : ARE l = true) : 1 ≤ l.length ∧ l.length ≤ 7 := by
  unfold ARE at h
  simp only [Bool.and_eq_true, decide_eq_true_eq] at h
  omega
theorem ARE_at {l : List S44} (h : ARE l = true) {i : Nat} (hi : i < l.length) : (1 ≤ (rd_T44 l (i : Int)).f0 ∧ (rd_T44 l (i : Int)).f0 ≤ 7) ∧ (0 ≤ (rd_T44 l (i : Int)).f1 ∧ (rd_T44 l (i : Int)).f1 ≤ 1018) := by
  unfold ARE at h
  rw [Bool.and_eq_true] at h
  have := good_at l _ _ h.2 i (by omega) (by omega)
  unfold inr at this
  simpa only [Bool.and_eq_true, decide_eq_true_eq] using this

def idx (l : List S44) : List Int := l.map fun x => x.f0
theorem idx_length (l : List S44) : (idx l).length = l.length := by unfold idx; simp
def IS (v w : Int) : Int → Int := fun s => (s + v * w) % 1019
/-- Sum of the values times the weights, from i on. -/
def IP (l : List S44) (ix : List Int) (p : Int) : Nat → Nat → Int → Int
  | 0, _, s => s
  | n + 1, i, s => IP l ix p n (i + 1) ((s + (rd_T44 l (i : Int)).f1 * LW ix (i : Int) p) % 1019)
def IT (l : List S44) (p : Int) : Int × Bool := if ARE l = true then (IP l (idx l) p l.length 0 0, true) else (0, false)
theorem sum_go {s v w : Int} (s0 : 0 ≤ s) (s1 : s < 1019) (v0 : 0 ≤ v) (v1 : v ≤ 1018) (w0 : 0 ≤ w) (w1 : w < 1019) : Int.tmod (wrap64 (s + wrap64 (v * w))) 1019 = (s + v * w) % 1019 := by
  have h0 : 0 ≤ v * w := Int.mul_nonneg v0 w0
  have h1 : v * w ≤ 1018 * 1019 := Int.mul_le_mul v1 (by omega) w0 (by omega)
  rw [w64 (n := v * w) (by omega) (by omega), w64 (by omega) (by omega), Int.tmod_eq_emod_of_nonneg (by omega)]
theorem emod_rng (x : Int) : 0 ≤ x % 1019 ∧ x % 1019 < 1019 := ⟨Int.emod_nonneg _ (by omega), Int.emod_lt_of_pos _ (by omega)⟩

def RF (l : List S44) (c : List Int) : List S44 := if ARE l = true then l.map fun x => ⟨x.f0, (x.f1 + PO 0 c x.f0) % 1019⟩ else []
theorem RF_length (l : List S44) (c : List Int) : (RF l c).length ≤ 7 := by
  unfold RF
  by_cases h : ARE l = true
  · rw [if_pos h, List.length_map]; exact (ARE_len h).2
  · rw [if_neg h]; simp
theorem PO_rng (s : Int) (c : List Int) (x : Int) : 0 ≤ PO s c x ∧ PO s c x < 1019 := emod_rng _
theorem add_go {x y : Int} (x0 : 0 ≤ x) (x1 : x ≤ 1018) (y0 : 0 ≤ y) (y1 : y < 1019) : Int.tmod (wrap64 (x + y)) 1019 = (x + y) % 1019 := by
  rw [w64 (by omega) (by omega), Int.tmod_eq_emod_of_nonneg (by omega)]

/-! ### a missing share -/
def vls (l : List S44) : List Int := l.map fun x => x.f1
def hit (l : List S44) (p : Int) : Nat → Nat → Bool
  | 0, _ => false
  | n + 1, i => ((rd_T44 l (i : Int)).f0 == p) || hit l p n (i + 1)
def IQ (f : Nat → Int) : Nat → Nat → Int → Int
  | 0, _, s => s
  | n + 1, i, s => IQ f n (i + 1) ((s + f i) % 1019)
def MSv (l : List S44) (a p : Int) : Int := (IQ (fun i => (rd_T44 l (i : Int)).f1 * LW (idx l ++ [0]) (i : Int) p) l.length 0 0 + a % 1019 * LW (idx l ++ [0]) (l.length : Int) p) % 1019
def MS (l : List S44) (a p : Int) : Int × Int × Bool := if (0 < l.length ∧ ARE l = false) ∨ ¬ (1 ≤ p ∧ p ≤ 7) ∨ hit l p l.length 0 = true then (0, 0, false) else (p, MSv l a p, true)
theorem vls_length (l : List S44) : (vls l).length = l.length := by unfold vls; simp
theorem IQ_rng (f : Nat → Int) : ∀ n i s, 0 ≤ s → s < 1019 → 0 ≤ IQ f n i s ∧ IQ f n i s < 1019 := by
  intro n
  induction n with
  | zero => intro i s h0 h1; exact ⟨h0, h1⟩
  | succ n ih => intro i s h0 h1; exact ih _ _ (emod_rng _).1 (emod_rng _).2
theorem IQ_shift (f : Nat → Int) (c : Int) : ∀ n i s, IQ f n i ((s + c) % 1019) % 1019 = (IQ f n i s + c) % 1019 := by
  intro n
  induction n with
  | zero => intro i s; simp only [IQ]; rw [Int.emod_emod_of_dvd _ (Int.dvd_refl 1019)]
  | succ n ih =>
    intro i s
    simp only [IQ]
    have e : ((s + c) % 1019 + f i) % 1019 = ((s + f i) % 1019 + c) % 1019 := by
      rw [Int.emod_add_emod, Int.emod_add_emod]
      congr 1
      omega
    rw [← ih (i + 1) ((s + f i) % 1019), e]
theorem IQ_ext {f g : Nat → Int} : ∀ n i s, (∀ j, i ≤ j → j < i + n → f j = g j) → IQ f n i s = IQ g n i s := by
  intro n
  induction n with
  | zero => intro i s h; rfl
  | succ n ih =>
    intro i s h
    simp only [IQ]
    rw [h i (by omega) (by omega)]
    exact ih (i + 1) _ (fun j h1 h2 => h j (by omega) (by omega))
theorem rd_idx {l : List S44} {i : Nat} (h : i < l.length) : rd (idx l) (i : Int) = (rd_T44 l (i : Int)).f0 := by
  rw [rd_at (by rw [idx_length]; exact h), rd44_at h]
  unfold idx
  simp
theorem rd_vls {l : List S44} {i : Nat} (h : i < l.length) : rd (vls l) (i : Int) = (rd_T44 l (i : Int)).f1 := by
  rw [rd_at (by rw [vls_length]; exact h), rd44_at h]
  unfold vls
  simp
theorem gm_end {l : List Int} {i : Nat} (h : i < l.length) : gm (l ++ [0]) i = gm l i := by
  unfold gm
  rw [rd_nat, rd_nat, List.getElem?_append_left h]
theorem gm_last (l : List Int) : gm (l ++ [0]) l.length = 0 := by
  unfold gm
  rw [rd_nat]; simp
theorem gm_cons (l : List Int) (i : Nat) : gm (0 :: l) (i + 1) = gm l i := by
  unfold gm
  rw [rd_nat, rd_nat, List.getElem?_cons_succ]
theorem gm_head (l : List Int) : gm (0 :: l) 0 = 0 := by
  unfold gm
  rw [rd_nat]; rfl
theorem mm (x y : Int) : (x % 1019 * y) % 1019 = x * y % 1019 := by
  rw [Int.mul_emod, Int.emod_emod_of_dvd _ (Int.dvd_refl 1019), ← Int.mul_emod]
theorem fac (w a b : Int) : w * a % 1019 * b % 1019 = w * (a * b) % 1019 := by
  rw [mm, Int.mul_assoc]
theorem fac_comm (w a b c d : Int) : (w * a % 1019 * b % 1019) * c % 1019 * d % 1019 = (w * c % 1019 * d % 1019) * a % 1019 * b % 1019 := by
  rw [fac (w * a % 1019 * b % 1019) c d, fac w a b, fac (w * c % 1019 * d % 1019) a b, fac w c d, mm, mm]
  congr 1
  rw [Int.mul_assoc w (a * b), Int.mul_assoc w (c * d), Int.mul_comm (a * b)]
def z0 (gi p w : Int) : Int := w * ((p % 1019 - 0) % 1019) % 1019 * IV (gi - 0) % 1019
theorem LP_move (A : List Int) (p : Int) (i : Nat) (hi : i < A.length) : ∀ (n j : Nat) (w : Int), j + n = A.length → LP (A ++ [0]) p i (n + 1) j w = LP (0 :: A) p (i + 1) n (j + 1) (z0 (gm A i) p w) := by
  intro n
  induction n with
  | zero =>
    intro j w hj
    obtain rfl : j = A.length := by omega
    simp only [LP]
    rw [if_neg (by omega)]
    unfold LS z0
    rw [gm_end hi, gm_last]
  | succ n ih =>
    intro j w hj
    rw [show LP (A ++ [0]) p i (n + 1 + 1) j w = LP (A ++ [0]) p i (n + 1) (j + 1) (if j = i then w else LS (A ++ [0]) p i j w) from rfl, ih (j + 1) _ (by omega)]
    rw [show LP (0 :: A) p (i + 1) (n + 1) (j + 1) (z0 (gm A i) p w) = LP (0 :: A) p (i + 1) n (j + 1 + 1) (if j + 1 = i + 1 then z0 (gm A i) p w else LS (0 :: A) p (i + 1) (j + 1) (z0 (gm A i) p w)) from rfl]
    congr 1
    by_cases e : j = i
    · rw [if_pos e, if_pos (by omega)]
    · rw [if_neg e, if_neg (by omega)]
      unfold LS z0
      rw [gm_end hi, gm_end (show j < A.length by omega), gm_cons, gm_cons]
      exact fac_comm _ _ _ _ _
theorem LP_skip (A : List Int) (p : Int) : ∀ (n j : Nat) (w : Int), j + n = A.length → LP (A ++ [0]) p A.length (n + 1) j w = LP (0 :: A) p 0 n (j + 1) w := by
  intro n
  induction n with
  | zero =>
    intro j w hj
    obtain rfl : j = A.length := by omega
    simp only [LP]
    rw [if_pos trivial]
  | succ n ih =>
    intro j w hj
    rw [show LP (A ++ [0]) p A.length (n + 1 + 1) j w = LP (A ++ [0]) p A.length (n + 1) (j + 1) (if j = A.length then w else LS (A ++ [0]) p A.length j w) from rfl, ih (j + 1) _ (by omega)]
    rw [show LP (0 :: A) p 0 (n + 1) (j + 1) w = LP (0 :: A) p 0 n (j + 1 + 1) (if j + 1 = 0 then w else LS (0 :: A) p 0 (j + 1) w) from rfl]
    congr 1
    rw [if_neg (by omega), if_neg (by omega)]
    unfold LS
    rw [gm_last, gm_end (show j < A.length by omega), gm_cons, gm_head]
theorem dr_none {X : List Int} {a : Nat} : ∀ n b, (∀ j, b ≤ j → j < b + n → gm X j ≠ gm X a) → dr X a n b = false := by
  intro n
  induction n with
  | zero => intro b h; rfl
  | succ n ih =>
    intro b h
    have e : (gm X b == gm X a) = false := by simpa using h b (by omega) (by omega)
    rw [show dr X a (n + 1) b = (gm X b == gm X a || dr X a n (b + 1)) from rfl, e, Bool.false_or]
    exact ih (b + 1) (fun j h1 h2 => h j (by omega) (by omega))
theorem df_none {X : List Int} : ∀ n a, (∀ j i, j < i → i < a + n → gm X j ≠ gm X i) → df X n a = false := by
  intro n
  induction n with
  | zero => intro a h; rfl
  | succ n ih =>
    intro a h
    rw [show df X (n + 1) a = (dr X a a 0 || df X n (a + 1)) from rfl, dr_none a 0 (fun j _ h2 => h j a (by omega) (by omega)), Bool.false_or]
    exact ih (a + 1) (fun j i h1 h2 => h j i h1 (by omega))
theorem good_ne (l : List S44) : ∀ n i, good l n i = true → ∀ a, i ≤ a → a < i + n → ∀ b, b < a → (rd_T44 l (b : Int)).f0 ≠ (rd_T44 l (a : Int)).f0 := by
  intro n
  induction n with
  | zero => intro i _ a h1 h2; omega
  | succ n ih =>
    intro i h a h1 h2 b hb
    simp only [good, Bool.and_eq_true] at h
    by_cases e : a = i
    · subst e
      intro he
      have := (dupI_iff l a a 0).2 ⟨b, by omega, by omega, he⟩
      rw [this] at h
      simp at h
    · exact ih (i + 1) h.2 a (by omega) (by omega) b hb
theorem ARE_ne {l : List S44} (h : ARE l = true) {a b : Nat} (hb : b < a) (ha : a < l.length) : (rd_T44 l (b : Int)).f0 ≠ (rd_T44 l (a : Int)).f0 := by
  unfold ARE at h
  rw [Bool.and_eq_true] at h
  exact good_ne l _ _ h.2 a (by omega) (by omega) b hb
theorem gm_idx {l : List S44} (h : ARE l = true) {i : Nat} (hi : i < l.length) : gm (idx l) i = (rd_T44 l (i : Int)).f0 := by
  have := ARE_at h hi
  unfold gm
  rw [rd_idx hi]
  omega
theorem dist_cons {l : List S44} (h : l.length = 0 ∨ ARE l = true) : ∀ j i, j < i → i < l.length + 1 → gm (0 :: idx l) j ≠ gm (0 :: idx l) i := by
  intro j i hj hi
  obtain ⟨i, rfl⟩ : ∃ m, i = m + 1 := ⟨i - 1, by omega⟩
  have hA : ARE l = true := by
    rcases h with h | h
    · omega
    · exact h
  have hi' : i < l.length := by omega
  have h1 := (ARE_at hA hi').1
  rw [gm_cons, gm_idx hA hi']
  match j, hj with
  | 0, _ => rw [gm_head]; omega
  | j + 1, hj =>
    rw [gm_cons, gm_idx hA (by omega)]
    exact ARE_ne hA (by omega) hi'
theorem dist_end {l : List S44} (h : l.length = 0 ∨ ARE l = true) : ∀ j i, j < i → i < l.length + 1 → gm (idx l ++ [0]) j ≠ gm (idx l ++ [0]) i := by
  intro j i hj hi
  have hA : ARE l = true := by
    rcases h with h | h
    · omega
    · exact h
  have hl := idx_length l
  have h1 := (ARE_at hA (show j < l.length by omega)).1
  rw [gm_end (by omega), gm_idx hA (by omega)]
  by_cases e : i = l.length
  · subst e
    rw [← hl, gm_last]; omega
  · rw [gm_end (by omega), gm_idx hA (by omega)]
    exact ARE_ne hA hj (by omega)
theorem LW_move {l : List S44} (h : l.length = 0 ∨ ARE l = true) (p : Int) {i : Nat} (hi : i < l.length) : LW (idx l ++ [0]) (i : Int) p = LW (0 :: idx l) ((i + 1 : Nat) : Int) p := by
  have hl := idx_length l
  have e1 : (idx l ++ [0]).length = l.length + 1 := by simp [hl]
  have e2 : (0 :: idx l).length = l.length + 1 := by simp [hl]
  unfold LW
  rw [e1, e2, if_pos (by omega), df_none (l.length + 1) 0 (fun j i a b => dist_end h j i a (by omega)), if_neg (by simp), if_pos (by omega), df_none (l.length + 1) 0 (fun j i a b => dist_cons h j i a (by omega)), if_neg (by simp), Int.toNat_natCast, Int.toNat_natCast,
    LP_move (idx l) p i (by omega) l.length 0 1 (by omega)]
  rw [show LP (0 :: idx l) p (i + 1) (l.length + 1) 0 1 = LP (0 :: idx l) p (i + 1) l.length 1 (if 0 = i + 1 then 1 else LS (0 :: idx l) p (i + 1) 0 1) from rfl, if_neg (by omega)]
  congr 1
theorem LW_skip {l : List S44} (h : l.length = 0 ∨ ARE l = true) (p : Int) : LW (idx l ++ [0]) (l.length : Int) p = LW (0 :: idx l) 0 p := by
  have hl := idx_length l
  have e1 : (idx l ++ [0]).length = l.length + 1 := by simp [hl]
  have e2 : (0 :: idx l).length = l.length + 1 := by simp [hl]
  unfold LW
  rw [e1, e2, if_pos (by omega), df_none (l.length + 1) 0 (fun j i a b => dist_end h j i a (by omega)), if_neg (by simp), if_pos (by omega), df_none (l.length + 1) 0 (fun j i a b => dist_cons h j i a (by omega)), if_neg (by simp), Int.toNat_natCast]
  have := LP_skip (idx l) p l.length 0 1 (by omega)
  rw [hl] at this
  rw [this]; rfl
theorem impl_InRange_eq (a b c : Int) : impl_InRange.f a b c = some (decide (b ≤ a ∧ a ≤ c)) := by
  unfold impl_InRange.f
  by_cases h : b ≤ a
  · rw [if_pos h]; simp [h]
  · rw [if_neg h]; simp [h]
theorem AS_good (l : List S44) : ∀ (n i : Nat) (L : List Bool), i + n = l.length → L.length = 8 → (∀ v : Nat, v < 8 → (L.getD v false = true ↔ ∃ j : Nat, j < i ∧ (rd_T44 l (j : Int)).f0 = (v : Int))) → AS L (l.drop i) = good l n i := by
  intro n
  induction n with
  | zero =>
    intro i L hi hL hv
    rw [List.drop_eq_nil_of_le (by omega)]; rfl
  | succ n ih =>
    intro i L hi hL hv
    rw [AS_at L (by omega)]
    have einr : inr (rd_T44 l (i : Int)) = (decide (1 ≤ (rd_T44 l (i : Int)).f0 ∧ (rd_T44 l (i : Int)).f0 ≤ 7) && decide (0 ≤ (rd_T44 l (i : Int)).f1 ∧ (rd_T44 l (i : Int)).f1 ≤ 1018)) := rfl
    have hd := dupI_iff l i i 0
    have ih' := ih (i + 1) (L.set (rd_T44 l (i : Int)).f0.toNat true) (by omega) (by rw [List.length_set]; exact hL)
    rw [show good l (n + 1) i = (inr (rd_T44 l (i : Int)) && !(dupI l i i 0) && good l n (i + 1)) from rfl, einr]
    by_cases h : (1 ≤ (rd_T44 l (i : Int)).f0 ∧ (rd_T44 l (i : Int)).f0 ≤ 7) ∧ (0 ≤ (rd_T44 l (i : Int)).f1 ∧ (rd_T44 l (i : Int)).f1 ≤ 1018)
    · rw [decide_eq_true h.1, decide_eq_true h.2, Bool.true_and, Bool.true_and]
      have hlt : (rd_T44 l (i : Int)).f0.toNat < 8 := by omega
      have hcast : ((rd_T44 l (i : Int)).f0.toNat : Int) = (rd_T44 l (i : Int)).f0 := by omega
      have hv1 := hv _ hlt
      rw [hcast] at hv1
      have hdv : dupI l i i 0 = L.getD (rd_T44 l (i : Int)).f0.toNat false := by
        rw [Bool.eq_iff_iff, hd, hv1]
        exact ⟨fun ⟨j, _, h2, h3⟩ => ⟨j, by omega, h3⟩, fun ⟨j, h2, h3⟩ => ⟨j, by omega, by omega, h3⟩⟩
      rw [hdv]
      cases hg : L.getD (rd_T44 l (i : Int)).f0.toNat false with
      | true => rw [if_neg (fun h2 => by simp at h2)]; rfl
      | false =>
        rw [if_pos ⟨h, rfl⟩, Bool.not_false, Bool.true_and]
        refine ih' (fun v hv8 => ?_)
        have e1 : (L.set (rd_T44 l (i : Int)).f0.toNat true).getD v false = if (rd_T44 l (i : Int)).f0.toNat = v then true else L.getD v false := by
          simp only [List.getD_eq_getElem?_getD, List.getElem?_set]
          by_cases e : (rd_T44 l (i : Int)).f0.toNat = v
          · rw [if_pos e, if_pos e, if_pos (by omega)]; rfl
          · rw [if_neg e, if_neg e]
        rw [e1]
        by_cases e : (rd_T44 l (i : Int)).f0.toNat = v
        · rw [if_pos e]
          exact ⟨fun _ => ⟨i, by omega, by omega⟩, fun _ => rfl⟩
        · rw [if_neg e, hv v hv8]
          constructor
          · rintro ⟨j, h1, h2⟩; exact ⟨j, by omega, h2⟩
          · rintro ⟨j, h1, h2⟩
            by_cases ej : j = i
            · subst ej; omega
            · exact ⟨j, by omega, h2⟩
    · rw [if_neg (fun h2 => h h2.1)]
      have : (decide (1 ≤ (rd_T44 l (i : Int)).f0 ∧ (rd_T44 l (i : Int)).f0 ≤ 7) && decide (0 ≤ (rd_T44 l (i : Int)).f1 ∧ (rd_T44 l (i : Int)).f1 ≤ 1018)) = false := by
        cases hb : (decide (1 ≤ (rd_T44 l (i : Int)).f0 ∧ (rd_T44 l (i : Int)).f0 ≤ 7) && decide (0 ≤ (rd_T44 l (i : Int)).f1 ∧ (rd_T44 l (i : Int)).f1 ≤ 1018)) with
        | false => rfl
        | true =>
          simp only [Bool.and_eq_true, decide_eq_true_eq] at hb
          exact absurd hb h
      rw [this]; rfl
theorem impl_AreShares_eq (k : Nat) (l : List S44) : impl_AreShares.f k l = some (ARE l) := by
  unfold impl_AreShares.f ARE
  have h := AS_good l l.length 0 [false, false, false, false, false, false, false, false] (by omega) rfl (fun v hv => by
    constructor
    · intro h
      exfalso
      match v, hv with
      | 0, _ => simp at h
      | 1, _ => simp at h
      | 2, _ => simp at h
      | 3, _ => simp at h
      | 4, _ => simp at h
      | 5, _ => simp at h
      | 6, _ => simp at h
      | 7, _ => simp at h
    · rintro ⟨j, h, _⟩; omega)
  rw [List.drop_zero] at h
  rw [h]
  by_cases hl : 1 ≤ l.length ∧ l.length ≤ 7
  · rw [if_pos hl, decide_eq_true (by omega), Bool.true_and]
  · rw [if_neg hl, decide_eq_false (by omega), Bool.false_and]
theorem impl_Mod_eq {k : Nat} (hk : 0 < k) (a m : Int) (h1 : 1 ≤ m) (h2 : m ≤ 1000000000000) : impl_Mod.f k a m = some (a % m) := by
  obtain ⟨k, rfl⟩ : ∃ j, k = j + 1 := ⟨k - 1, by omega⟩
  unfold impl_Mod.f
  rw [if_neg (by omega)]
  simp only [impl_Mod.j0]
  rw [if_neg (by simp; omega), if_neg (by omega), tmod_two a m h1 h2]
theorem impl_Mod_out {k : Nat} (hk : 0 < k) (a m : Int) (h : ¬ (1 ≤ m ∧ m ≤ 1000000000000)) : impl_Mod.f k a m = some 0 := by
  obtain ⟨k, rfl⟩ : ∃ j, k = j + 1 := ⟨k - 1, by omega⟩
  unfold impl_Mod.f
  by_cases h1 : m < 1
  · rw [if_pos h1]
    simp only [impl_Mod.j0]
    rw [if_pos (by simp)]
  · rw [if_neg h1]
    simp only [impl_Mod.j0]
    rw [if_pos (by simp; omega)]
theorem impl_polynomial_l0 (s : Int) (c : List Int) (x : Int) (x0 : 0 ≤ x) (x1 : x ≤ 1000000) (hc : c.length ≤ 1048576) : ∀ (i k : Nat) (v : Int), i ≤ c.length → i + 10 < k → v = (c.drop i).foldr (fun a v => (v + a % 1019) * x % 1019) 0 → 0 ≤ v → v < 1019 → impl_polynomial.l0 k s c x v ((i : Int) - 1) = some (PO s c x) := by
  intro i
  induction i with
  | zero =>
    intro k v hi hk hv v0 v1
    obtain ⟨k, rfl⟩ : ∃ m, k = m + 1 := ⟨k - 1, by omega⟩
    simp only [impl_polynomial.l0]
    rw [if_neg (by omega)]
    rw [impl_Mod_eq (by omega) _ 1019 (by omega) (by omega)]; simp only [Option.bind_some]
    rw [impl_Mod_eq (by omega) _ 1019 (by omega) (by omega)]; simp only [Option.bind_some]
    have s0 : 0 ≤ s % 1019 := Int.emod_nonneg _ (by omega)
    have s1 : s % 1019 < 1019 := Int.emod_lt_of_pos _ (by omega)
    rw [w64 (by omega) (by omega), hv]; rfl
  | succ i ih =>
    intro k v hi hk hv v0 v1
    obtain ⟨k, rfl⟩ : ∃ m, k = m + 1 := ⟨k - 1, by omega⟩
    simp only [impl_polynomial.l0]
    rw [show ((i + 1 : Nat) : Int) - 1 = (i : Int) by omega, if_pos (by omega), if_pos (by omega), if_pos (by omega), impl_Mod_eq (by omega) _ 1019 (by omega) (by omega)]; simp only [Option.bind_some]
    rw [rd_at (show i < c.length by omega), w64 (n := (i : Int) - 1) (by omega) (by omega)]
    have r0 : 0 ≤ c[i] % 1019 := Int.emod_nonneg _ (by omega)
    have r1 : c[i] % 1019 < 1019 := Int.emod_lt_of_pos _ (by omega)
    have hv2 : (v + c[i] % 1019) * x % 1019 = (c.drop i).foldr (fun a v => (v + a % 1019) * x % 1019) 0 := by
      rw [List.drop_eq_getElem_cons (show i < c.length by omega), List.foldr_cons, ← hv]
    generalize c[i] % 1019 = z at *
    have p0 : 0 ≤ (v + z) * x := Int.mul_nonneg (by omega) x0
    have p1 : (v + z) * x ≤ 2038 * 1000000 := Int.mul_le_mul (by omega) x1 x0 (by omega)
    rw [w64 (n := v + z) (by omega) (by omega), w64 (n := (v + z) * x) (by omega) (by omega), Int.tmod_eq_emod_of_nonneg p0]
    exact ih k _ (by omega) (by omega) hv2 (Int.emod_nonneg _ (by omega)) (Int.emod_lt_of_pos _ (by omega))
theorem impl_polynomial_eq {k : Nat} (s : Int) (c : List Int) (x : Int) (x0 : 0 ≤ x) (x1 : x ≤ 1000000) (hc : c.length ≤ 1048576) (hk : c.length + 10 < k) : impl_polynomial.f k s c x = some (PO s c x) := by
  unfold impl_polynomial.f
  rw [w64 (by omega) (by omega)]
  exact impl_polynomial_l0 s c x x0 x1 hc c.length k 0 (by omega) hk (by rw [List.drop_length]; rfl) (by omega) (by omega)
theorem impl_ShareSecret_l0 (s : Int) (c : List Int) (n : Nat) (hn : n ≤ 7) (hc : c.length ≤ 7) : ∀ (d x k : Nat) (acc : List S44), x + d = n + 1 → d + 100 ≤ k → acc.length + d ≤ 100 → impl_ShareSecret.l0 k s c (n : Int) acc (x : Int) = some (acc ++ SL s c d x) := by
  intro d
  induction d with
  | zero =>
    intro x k acc hx hk ha
    obtain ⟨k, rfl⟩ : ∃ m, k = m + 1 := ⟨k - 1, by omega⟩
    simp only [impl_ShareSecret.l0, SL]
    rw [if_neg (by omega), List.append_nil]
  | succ d ih =>
    intro x k acc hx hk ha
    obtain ⟨k, rfl⟩ : ∃ m, k = m + 1 := ⟨k - 1, by omega⟩
    simp only [impl_ShareSecret.l0, SL]
    rw [if_pos (by omega), impl_polynomial_eq s c (x : Int) (by omega) (by omega) (by omega) (by omega)]; simp only [Option.bind_some]
    rw [if_pos (by omega), nxt (by omega), ih (x + 1) k _ (by omega) (by omega) (by rw [List.length_append]; simp; omega), List.append_assoc]; rfl

theorem impl_ShareSecret_eq {k : Nat} (hk : 1000 ≤ k) (s : Int) (c : List Int) (n : Int) : impl_ShareSecret.f k s c n = some (SH s c n) := by
  obtain ⟨k, rfl⟩ : ∃ m, k = m + 1 := ⟨k - 1, by omega⟩
  unfold impl_ShareSecret.f SH
  simp only [Option.bind_some, impl_InRange_eq, impl_ShareSecret.j0]
  by_cases h : 1 ≤ n ∧ n ≤ 7
  · rw [if_pos (by simpa using h)]
    by_cases h1 : (c.length : Int) < n
    · obtain ⟨m, rfl⟩ := Int.eq_ofNat_of_zero_le (show 0 ≤ n by omega)
      rw [if_neg (by simp; omega), if_pos ⟨h, h1⟩]
      exact impl_ShareSecret_l0 s c m (by omega) (by omega) m 1 k [] (by omega) (by omega) (by simp; omega)
    · rw [if_pos (by simp; omega), if_neg (fun h2 => h1 h2.2)]
  · rw [if_neg (by simpa using h), if_pos trivial, if_neg (fun h2 => h h2.1)]
theorem impl_RefreshShares_l0 (l : List S44) (h : ARE l = true) (c : List Int) (hc : c.length ≤ 1048576) : ∀ (n i k : Nat) (acc : List S44), i + n = l.length → n + 2000000 < k → acc = (l.take i).map (fun x => ⟨x.f0, (x.f1 + PO 0 c x.f0) % 1019⟩) → impl_RefreshShares.l0 k c acc l (l.length : Int) (i : Int) = some (l.map fun x => ⟨x.f0, (x.f1 + PO 0 c x.f0) % 1019⟩) := by
  have hl := ARE_len h
  intro n
  induction n with
  | zero =>
    intro i k acc hi hk hacc
    obtain ⟨k, rfl⟩ : ∃ m, k = m + 1 := ⟨k - 1, by omega⟩
    simp only [impl_RefreshShares.l0]
    rw [if_neg (by omega), hacc, List.take_of_length_le (by omega)]
  | succ n ih =>
    intro i k acc hi hk hacc
    obtain ⟨k, rfl⟩ : ∃ m, k = m + 1 := ⟨k - 1, by omega⟩
    simp only [impl_RefreshShares.l0]
    have ha := ARE_at h (show i < l.length by omega)
    have hal : acc.length ≤ 7 := by rw [hacc, List.length_map, List.length_take]; omega
    have hp := PO_rng 0 c (rd_T44 l (i : Int)).f0
    rw [if_pos (by omega), if_pos (by omega), if_pos (by omega), impl_polynomial_eq 0 c _ (by omega) (by omega) hc (by omega)]; simp only [Option.bind_some]
    rw [if_pos (by omega), nxt (by omega), add_go ha.2.1 ha.2.2 hp.1 hp.2]
    refine ih (i + 1) k _ (by omega) (by omega) ?_
    rw [hacc, List.take_succ_eq_append_getElem (show i < l.length by omega), List.map_append, rd44_at (show i < l.length by omega)]; rfl

theorem impl_RefreshShares_eq {k : Nat} (hk : 10000000000000 ≤ k) (l : List S44) (c : List Int) (hc : c.length ≤ 1048576) : impl_RefreshShares.f k l c = some (RF l c) := by
  unfold impl_RefreshShares.f RF
  rw [impl_AreShares_eq k l]; simp only [Option.bind_some]
  by_cases h : ARE l = true
  · rw [if_pos h, if_pos h]
    exact impl_RefreshShares_l0 l h c hc l.length 0 k [] (by omega) (by have := ARE_len h; omega) rfl
  · rw [if_neg h, if_neg h]
theorem impl_power_l0 {m : Nat} (hm0 : 0 < m) (hm : m ≤ 2147483647) : ∀ (j k x n o : Nat), n < 2 ^ j → j ≤ 62 → j < k → x < m → o < m → impl_power.l0 k (x : Int) (n : Int) (m : Int) (o : Int) = some ((o * x ^ n % m : Nat) : Int) := by
  intro j
  induction j with
  | zero =>
    intro k x n o hn _ hk hx ho
    obtain ⟨k, rfl⟩ : ∃ m, k = m + 1 := ⟨k - 1, by omega⟩
    obtain rfl : n = 0 := by simpa using hn
    simp only [impl_power.l0]
    rw [if_neg (by omega), Nat.pow_zero, Nat.mul_one, Nat.mod_eq_of_lt ho]
  | succ j ih =>
    intro k x n o hn hj hk hx ho
    obtain ⟨k, rfl⟩ : ∃ m, k = m + 1 := ⟨k - 1, by omega⟩
    simp only [impl_power.l0]
    by_cases h0 : n = 0
    · subst h0
      rw [if_neg (by omega), Nat.pow_zero, Nat.mul_one, Nat.mod_eq_of_lt ho]
    · have hp : 2 ^ (j + 1) ≤ 2 ^ 62 := Nat.pow_le_pow_right (by omega) hj
      have hb : Int.tmod (n : Int) 2 = (n : Int) % 2 := Int.tmod_eq_emod_of_nonneg (by omega)
      have hd : wrap64 (Int.tdiv (n : Int) 2) = ((n / 2 : Nat) : Int) := by
        rw [Int.tdiv_eq_ediv_of_nonneg (by omega), w64 (by omega) (by omega)]; omega
      have hx2 : x * x % m < m := Nat.mod_lt _ (by omega)
      have hn2 : n / 2 < 2 ^ j := by rw [Nat.pow_succ] at hn; omega
      have ex : Int.tmod (wrap64 ((x : Int) * (x : Int))) (m : Int) = ((x * x % m : Nat) : Int) := tmodmul hx hx hm
      rw [if_pos (by omega), hb, hd, ex]
      by_cases h1 : n % 2 = 1
      · have eo : Int.tmod (wrap64 ((o : Int) * (x : Int))) (m : Int) = ((o * x % m : Nat) : Int) := tmodmul ho hx hm
        rw [if_pos (by omega), if_neg (by omega), eo, ih k _ _ _ hn2 (by omega) (by omega) hx2 (Nat.mod_lt _ (by omega)), pow_odd h1]
      · rw [if_neg (by omega), if_neg (by omega), ih k _ _ _ hn2 (by omega) (by omega) hx2 ho, pow_even (by omega)]
theorem impl_power_eq {k : Nat} (hk : 64 ≤ k) {x n m : Int} (X N M : Nat) (hx : x = X) (hn : n = N) (hm : m = M) (hM0 : 1 < M) (hM : M ≤ 2147483647) (hN : N < 4611686018427387904) : impl_power.f k x n m = some ((X ^ N % M : Nat) : Int) := by
  subst hx hn hm
  unfold impl_power.f
  have e : Int.tmod (X : Int) (M : Int) = ((X % M : Nat) : Int) := by
    rw [Int.tmod_eq_emod_of_nonneg (by omega)]; exact (Int.natCast_emod _ _).symm
  have e1 : (1 : Int) % (M : Int) = ((1 : Nat) : Int) := Int.emod_eq_of_lt (by omega) (by omega)
  have h := impl_power_l0 (by omega) hM 62 k (X % M) N 1 (by omega) (by omega) (by omega) (Nat.mod_lt _ (by omega)) (by omega)
  rw [Nat.one_mul, ← Nat.pow_mod] at h
  rw [if_neg (by omega), e, e1]
  exact h
theorem impl_InverseExponent_eq {k : Nat} (hk : 64 ≤ k) (n : Int) : impl_InverseExponent.f k n = some (IV n) := by
  unfold impl_InverseExponent.f
  rw [impl_Mod_eq (by omega) n 1019 (by omega) (by omega)]; simp only [Option.bind_some]
  by_cases h : n % 1019 = 0
  · rw [if_pos h, IV_zero h]
  · rw [if_neg h, impl_power_eq hk (n := 1017) (m := 1019) (n % 1019).toNat inx 1019 (by omega) rfl rfl (by omega) (by omega) (by decide)]; rfl
theorem impl_LagrangeWeight_row (l : List Int) (i p x : Int) (a : Nat) (ha : a < l.length) (hl : l.length ≤ 1048576) : ∀ (n b k : Nat), b + n = a → impl_LagrangeWeight.l1 (k + n + 2) l i p (a : Int) (b : Int) x (a : Int) = if dr l a n b = true then some 0 else impl_LagrangeWeight.l0 (k + 1) l i p x ((a + 1 : Nat) : Int) := by
  intro n
  induction n with
  | zero =>
    intro b k hb
    obtain rfl : b = a := by omega
    conv => lhs; simp only [impl_LagrangeWeight.l1]
    rw [if_neg (by omega), nxt (by omega)]; simp [dr]
  | succ n ih =>
    intro b k hb
    obtain ⟨m, hm⟩ : ∃ m, m = k + n + 2 := ⟨_, rfl⟩
    have hih := ih (b + 1) k (by omega)
    rw [← hm] at hih
    rw [show k + (n + 1) + 2 = m + 1 by omega]
    conv => lhs; simp only [impl_LagrangeWeight.l1]
    rw [if_pos (by omega), if_pos (by omega), if_pos (by omega), impl_Mod_eq (by omega) _ 1019 (by omega) (by omega)]; simp only [Option.bind_some]
    rw [if_pos (by omega), if_pos (by omega), impl_Mod_eq (by omega) _ 1019 (by omega) (by omega)]; simp only [Option.bind_some]
    rw [nxt (by omega), hih]
    rw [show dr l a (n + 1) b = (gm l b == gm l a || dr l a n (b + 1)) from rfl]
    by_cases h : rd l (a : Int) % 1019 = rd l (b : Int) % 1019
    · rw [if_pos h, if_pos (by simp [gm, h])]
    · have e : (gm l b == gm l a) = false := by
        have : ¬ (rd l (b : Int) % 1019 = rd l (a : Int) % 1019) := fun h' => h h'.symm
        simpa [gm] using this
      rw [if_neg h, e, Bool.false_or]
theorem impl_LagrangeWeight_l2 (l : List Int) (i p : Int) (i0 : 0 ≤ i) (i1 : i < (l.length : Int)) (hl : l.length ≤ 1048576) : ∀ (n j k : Nat) (w : Int), j + n = l.length → n + 100 ≤ k → 0 ≤ w → w < 1019 → impl_LagrangeWeight.l2 k l i p w (rd l i % 1019) (l.length : Int) (j : Int) = some (LP l p i.toNat n j w) := by
  intro n
  induction n with
  | zero =>
    intro j k w hj hk w0 w1
    obtain ⟨k, rfl⟩ : ∃ m, k = m + 1 := ⟨k - 1, by omega⟩
    simp only [impl_LagrangeWeight.l2]
    rw [if_neg (by omega)]; simp [LP]
  | succ n ih =>
    intro j k w hj hk w0 w1
    obtain ⟨k, rfl⟩ : ∃ m, k = m + 1 := ⟨k - 1, by omega⟩
    simp only [impl_LagrangeWeight.l2, LP]
    rw [if_pos (by omega), nxt (by omega)]
    by_cases h : j = i.toNat
    · rw [if_pos (by omega), if_pos h, ih (j + 1) k w (by omega) (by omega) w0 w1]
    · rw [if_neg (by omega), if_neg h, if_pos (by omega), if_pos (by omega), impl_Mod_eq (by omega) _ 1019 (by omega) (by omega)]; simp only [Option.bind_some]
      rw [impl_Mod_eq (by omega) _ 1019 (by omega) (by omega)]; simp only [Option.bind_some]
      rw [impl_Mod_eq (by omega) _ 1019 (by omega) (by omega)]; simp only [Option.bind_some]
      rw [impl_InverseExponent_eq (by omega)]; simp only [Option.bind_some]
      have e : (i.toNat : Int) = i := by omega
      have h1 := gm_range l j
      have h2 := gm_range l i.toNat
      unfold gm at h1 h2
      rw [e] at h2
      have hs : w * ((p % 1019 - rd l (j : Int) % 1019) % 1019) % 1019 * IV (rd l i % 1019 - rd l (j : Int) % 1019) % 1019 = LS l p i.toNat j w := by
        unfold LS gm
        rw [e]
      rw [w64 (n := p % 1019 - rd l (j : Int) % 1019) (by omega) (by omega), w64 (n := rd l i % 1019 - rd l (j : Int) % 1019) (by omega) (by omega),
        step_go w0 w1 (Int.emod_nonneg _ (by omega)) (Int.emod_lt_of_pos _ (by omega)) (IV_range _).1 (IV_range _).2, hs,
        ih (j + 1) k _ (by omega) (by omega) (LS_range l p _ j w).1 (LS_range l p _ j w).2]
theorem impl_LagrangeWeight_l0 (l : List Int) (i p : Int) (i0 : 0 ≤ i) (i1 : i < (l.length : Int)) (hl : l.length ≤ 1048576) : ∀ (n j k : Nat), j + n = l.length → n * 2000000 + 2000000 ≤ k → impl_LagrangeWeight.l0 k l i p (l.length : Int) (j : Int) = some (if df l n j = true then 0 else LP l p i.toNat l.length 0 1) := by
  intro n
  induction n with
  | zero =>
    intro j k hj hk
    obtain ⟨k, rfl⟩ : ∃ m, k = m + 1 := ⟨k - 1, by omega⟩
    simp only [impl_LagrangeWeight.l0]
    rw [if_neg (by omega), if_pos (by omega), if_pos (by omega), impl_Mod_eq (by omega) _ 1019 (by omega) (by omega)]; simp only [Option.bind_some]
    have := impl_LagrangeWeight_l2 l i p i0 i1 hl l.length 0 k 1 (by omega) (by omega) (by omega) (by omega)
    rw [show ((0 : Nat) : Int) = 0 from rfl] at this
    rw [this]; simp [df]
  | succ n ih =>
    intro j k hj hk
    rw [Nat.succ_mul] at hk
    generalize hq : n * 2000000 = q at hk
    obtain ⟨k, rfl⟩ : ∃ m, k = m + j + 2 + 1 := ⟨k - j - 3, by omega⟩
    have hk2 : q + 2000000 ≤ k + 1 := by omega
    rw [← hq] at hk2
    simp only [impl_LagrangeWeight.l0]
    have hr := impl_LagrangeWeight_row l i p (l.length : Int) j (by omega) hl j 0 k (by omega)
    rw [show ((0 : Nat) : Int) = 0 from rfl] at hr
    rw [if_pos (by omega), hr, ih (j + 1) (k + 1) (by omega) hk2]
    rw [show df l (n + 1) j = (dr l j j 0 || df l n (j + 1)) from rfl]
    cases h : dr l j j 0 with
    | true => rw [if_pos rfl, if_pos (by simp)]
    | false => rw [if_neg (by simp), Bool.false_or]
theorem impl_LagrangeWeight_eq {k : Nat} (hk : 5000000000000 ≤ k) (l : List Int) (hl : l.length ≤ 1048576) (i p : Int) : impl_LagrangeWeight.f k l i p = some (LW l i p) := by
  obtain ⟨k, rfl⟩ : ∃ m, k = m + 1 := ⟨k - 1, by omega⟩
  unfold impl_LagrangeWeight.f LW
  by_cases h : 0 ≤ i ∧ i < (l.length : Int)
  · rw [if_neg (by omega), if_pos h]
    simp only [impl_LagrangeWeight.j0]
    rw [if_neg (by simp; omega)]
    exact impl_LagrangeWeight_l0 l i p h.1 h.2 hl l.length 0 k (by omega) (by omega)
  · rw [if_neg h]
    by_cases h1 : i < 0
    · rw [if_pos h1]
      simp only [impl_LagrangeWeight.j0]
      rw [if_pos (by simp)]
    · rw [if_neg h1]
      simp only [impl_LagrangeWeight.j0]
      rw [if_pos (by simp; omega)]
theorem impl_Interpolate_l1 (l : List S44) (h : ARE l = true) (p : Int) : ∀ (n i k : Nat) (s : Int), i + n = l.length → n + 5000000000000 < k → 0 ≤ s → s < 1019 → impl_Interpolate.l1 k p (idx l) s l (l.length : Int) (i : Int) = some (IP l (idx l) p n i s, true) := by
  have hl := ARE_len h
  intro n
  induction n with
  | zero =>
    intro i k s hi hk s0 s1
    obtain ⟨k, rfl⟩ : ∃ m, k = m + 1 := ⟨k - 1, by omega⟩
    simp only [impl_Interpolate.l1, IP]
    rw [if_neg (by omega)]
  | succ n ih =>
    intro i k s hi hk s0 s1
    obtain ⟨k, rfl⟩ : ∃ m, k = m + 1 := ⟨k - 1, by omega⟩
    simp only [impl_Interpolate.l1, IP]
    have ha := ARE_at h (show i < l.length by omega)
    have hw := LW_range (idx l) (i : Int) p
    rw [if_pos (by omega), if_pos (by omega), if_pos (by omega), impl_LagrangeWeight_eq (by omega) (idx l) (by rw [idx_length]; omega)]; simp only [Option.bind_some]
    rw [nxt (by omega), sum_go s0 s1 ha.2.1 ha.2.2 hw.1 hw.2]
    exact ih (i + 1) k _ (by omega) (by omega) (emod_rng _).1 (emod_rng _).2
theorem impl_Interpolate_l0 (l : List S44) (h : ARE l = true) (p : Int) : ∀ (n i k : Nat) (x : List Int), i + n = l.length → n + 5000000000100 < k → x = idx (l.take i) → impl_Interpolate.l0 k l p x l (l.length : Int) (i : Int) = some (IP l (idx l) p l.length 0 0, true) := by
  have hl := ARE_len h
  intro n
  induction n with
  | zero =>
    intro i k x hi hk hx
    obtain ⟨k, rfl⟩ : ∃ m, k = m + 1 := ⟨k - 1, by omega⟩
    simp only [impl_Interpolate.l0]
    rw [if_neg (by omega), hx, List.take_of_length_le (by omega)]
    exact impl_Interpolate_l1 l h p l.length 0 k 0 (by omega) (by omega) (by omega) (by omega)
  | succ n ih =>
    intro i k x hi hk hx
    obtain ⟨k, rfl⟩ : ∃ m, k = m + 1 := ⟨k - 1, by omega⟩
    simp only [impl_Interpolate.l0]
    have hxl : x.length ≤ 1048576 := by rw [hx, idx_length, List.length_take]; omega
    rw [if_pos (by omega), if_pos (by omega), if_pos (by omega), if_pos (by omega), nxt (by omega), rd44_at (show i < l.length by omega)]
    refine ih (i + 1) k _ (by omega) (by omega) ?_
    rw [hx]
    unfold idx
    rw [List.take_succ_eq_append_getElem (show i < l.length by omega), List.map_append]; rfl
theorem impl_Interpolate_eq {k : Nat} (hk : 10000000000000 ≤ k) (l : List S44) (p : Int) : impl_Interpolate.f k l p = some (IT l p) := by
  unfold impl_Interpolate.f IT
  rw [impl_AreShares_eq k l]; simp only [Option.bind_some]
  by_cases h : ARE l = true
  · rw [if_pos h, if_pos h]
    exact impl_Interpolate_l0 l h p l.length 0 k [] (by omega) (by have := ARE_len h; omega) rfl
  · rw [if_neg h, if_neg h]
theorem laws_big_eq (l : List Int) : laws_big.f l = some (decide ((l.length : Int) > 1048576)) := rfl
theorem laws_at_ok (l : List Int) (hb : ∀ x ∈ l, (Lit.int .u8 x).wf = true) (hl : l.length ≤ 1048576) (i : Int) (h0 : 0 ≤ i) (h1 : i ≤ 1048576) : ∃ v, laws_at.f l i = some v ∧ 0 ≤ v ∧ v ≤ 255 := by
  unfold laws_at.f
  by_cases h : i < (l.length : Int)
  · obtain ⟨j, rfl⟩ := Int.eq_ofNat_of_zero_le h0
    have hj : j < l.length := by omega
    have hv := wfb (hb _ (List.getElem_mem hj))
    rw [if_pos h, if_pos h0, rd_at hj, w64 (by omega) (by omega)]
    exact ⟨_, rfl, hv.1, hv.2⟩
  · rw [if_neg h, w64 (n := i * 31) (by omega) (by omega), w64 (n := (l.length : Int) * 7) (by omega) (by omega), w64 (by omega) (by omega), Int.tmod_eq_emod_of_nonneg (by omega)]
    exact ⟨_, rfl, by omega, by omega⟩

/-! ### sums -/
def SW (W f : Nat → Int) : Nat → Nat → Int
  | 0, _ => 0
  | n + 1, i => f i * W i + SW W f n (i + 1)
theorem SW_add (W f g : Nat → Int) : ∀ n i, SW W (fun j => f j + g j) n i = SW W f n i + SW W g n i := by
  intro n
  induction n with
  | zero => intro i; rfl
  | succ n ih => intro i; simp only [SW]; rw [ih, Int.add_mul]; omega
theorem SW_mul (W f : Nat → Int) (a : Int) : ∀ n i, SW W (fun j => a * f j) n i = a * SW W f n i := by
  intro n
  induction n with
  | zero => intro i; simp [SW]
  | succ n ih => intro i; simp only [SW]; rw [ih, Int.mul_add, Int.mul_assoc]
theorem SW_ext (W f g : Nat → Int) : ∀ n i, (∀ j, i ≤ j → j < i + n → f j = g j) → SW W f n i = SW W g n i := by
  intro n
  induction n with
  | zero => intro i h; rfl
  | succ n ih => intro i h; simp only [SW]; rw [h i (by omega) (by omega), ih (i + 1) (fun j h1 h2 => h j (by omega) (by omega))]
theorem SW_cong (W f g : Nat → Int) : ∀ n i, (∀ j, i ≤ j → j < i + n → f j % 1019 = g j % 1019) → SW W f n i % 1019 = SW W g n i % 1019 := by
  intro n
  induction n with
  | zero => intro i h; rfl
  | succ n ih =>
    intro i h
    simp only [SW]
    rw [Int.add_emod, ih (i + 1) (fun j h1 h2 => h j (by omega) (by omega)), Int.mul_emod, h i (by omega) (by omega), ← Int.mul_emod, ← Int.add_emod]
theorem IP_eq (l : List S44) (ix : List Int) (p : Int) : ∀ n i s, 0 ≤ s → s < 1019 → IP l ix p n i s = (s + SW (fun i => LW ix (i : Int) p) (fun i => (rd_T44 l (i : Int)).f1) n i) % 1019 := by
  intro n
  induction n with
  | zero => intro i s s0 s1; simp only [IP, SW]; rw [Int.add_zero, Int.emod_eq_of_lt s0 s1]
  | succ n ih =>
    intro i s s0 s1
    simp only [IP, SW]
    rw [ih (i + 1) _ (emod_rng _).1 (emod_rng _).2, Int.emod_add_emod, Int.add_assoc]
/-! ### polynomials -/
def H : List Int → Int → Int
  | [], _ => 0
  | a :: c, x => (H c x + a) * x
theorem H_zero (c : List Int) : H c 0 = 0 := by
  cases c with
  | nil => rfl
  | cons a c => simp [H]
theorem PO_H (s : Int) (c : List Int) (x : Int) : PO s c x = (H c x + s) % 1019 := by
  have h : ∀ c : List Int, c.foldr (fun a v => (v + a % 1019) * x % 1019) 0 % 1019 = H c x % 1019 := by
    intro c
    induction c with
    | nil => rfl
    | cons a c ih =>
      simp only [List.foldr_cons, H]
      rw [Int.emod_emod_of_dvd _ (Int.dvd_refl 1019), Int.mul_emod, Int.add_emod, ih, Int.emod_emod_of_dvd _ (Int.dvd_refl 1019), ← Int.add_emod, ← Int.mul_emod]
  unfold PO
  rw [Int.add_emod, h, Int.emod_emod_of_dvd _ (Int.dvd_refl 1019), ← Int.add_emod]
theorem moments (W x : Nat → Int) (q : Int) (n : Nat) : ∀ (c : List Int) (j : Nat), (∀ t, t ≤ c.length + j → SW W (fun i => x i ^ t) n 0 % 1019 = q ^ t % 1019) → SW W (fun i => H c (x i) * x i ^ j) n 0 % 1019 = H c q * q ^ j % 1019 := by
  intro c
  induction c with
  | nil =>
    intro j h
    have : SW W (fun i => H [] (x i) * x i ^ j) n 0 = 0 * SW W (fun i => x i ^ j) n 0 := SW_mul W _ 0 n 0
    rw [this]
    simp [H]
  | cons a c ih =>
    intro j h
    have e : SW W (fun i => H (a :: c) (x i) * x i ^ j) n 0 = SW W (fun i => H c (x i) * x i ^ (j + 1)) n 0 + a * SW W (fun i => x i ^ (j + 1)) n 0 := by
      rw [← SW_mul, ← SW_add]
      refine SW_ext W _ _ n 0 (fun i _ _ => ?_)
      simp only [H]
      rw [Int.pow_succ, Int.mul_comm (x i ^ j), Int.mul_assoc, Int.add_mul]
    have h1 := ih (j + 1) (fun t ht => h t (by rw [List.length_cons]; omega))
    have h2 := h (j + 1) (by rw [List.length_cons]; omega)
    rw [e, Int.add_emod, h1, Int.mul_emod a, h2, ← Int.mul_emod a, ← Int.add_emod]
    congr 1
    simp only [H]
    rw [Int.pow_succ, Int.mul_comm (q ^ j), Int.mul_assoc, Int.add_mul]
/-! ### weights of points in a row -/
def ix (a n : Nat) : List Int := (List.range n).map fun i => ((a + 1 + i : Nat) : Int)
def ok (a n q t : Nat) : Bool := SW (fun i => LW (ix a n) (i : Int) (q : Int)) (fun i => ((a + 1 + i : Nat) : Int) ^ t) n 0 % 1019 == (q : Int) ^ t % 1019
theorem table0 : ((List.range 7).all fun a => (List.range 8).all fun n => (List.range 4).all fun t => !(decide (a + n ≤ 7 ∧ t < n)) || ok a n 0 t) = true := by decide +kernel
theorem table1 : ((List.range 8).all fun q => (List.range 5).all fun n => (List.range 4).all fun t => !(decide (t < n)) || ok 0 n q t) = true := by decide +kernel
theorem ok_zero {a n t : Nat} (h : a + n ≤ 7) (ht : t < n) (h3 : t ≤ 3) : ok a n 0 t = true := by
  have h1 := List.all_eq_true.1 table0 a (List.mem_range.2 (by omega))
  have h2 := List.all_eq_true.1 h1 n (List.mem_range.2 (by omega))
  have h4 := List.all_eq_true.1 h2 t (List.mem_range.2 (by omega))
  rw [decide_eq_true ⟨h, ht⟩] at h4
  simpa using h4
theorem ok_first {n q t : Nat} (hn : n ≤ 4) (hq : q ≤ 7) (ht : t < n) : ok 0 n q t = true := by
  have h1 := List.all_eq_true.1 table1 q (List.mem_range.2 (by omega))
  have h2 := List.all_eq_true.1 h1 n (List.mem_range.2 (by omega))
  have h4 := List.all_eq_true.1 h2 t (List.mem_range.2 (by omega))
  rw [decide_eq_true ht] at h4
  simpa using h4
/-! ### shares of one polynomial -/
structure Sh (l : List S44) (a n : Nat) (s : Int) (c c' : List Int) : Prop where
  len : l.length = n
  at0 : ∀ i, i < n → (rd_T44 l (i : Int)).f0 = ((a + 1 + i : Nat) : Int)
  rng : ∀ i, i < n → 0 ≤ (rd_T44 l (i : Int)).f1 ∧ (rd_T44 l (i : Int)).f1 < 1019
  at1 : ∀ i, i < n → (rd_T44 l (i : Int)).f1 % 1019 = (H c ((a + 1 + i : Nat) : Int) + s + H c' ((a + 1 + i : Nat) : Int)) % 1019
theorem Sh_good {l : List S44} {a n : Nat} {s : Int} {c c' : List Int} (h : Sh l a n s c c') (ha : a + n ≤ 7) : ∀ m i, i + m = n → good l m i = true := by
  intro m
  induction m with
  | zero => intro i _; rfl
  | succ m ih =>
    intro i hi
    have h0 := h.at0 i (by omega)
    have h1 := h.rng i (by omega)
    have e1 : inr (rd_T44 l (i : Int)) = true := by
      have x1 : 1 ≤ (rd_T44 l (i : Int)).f0 ∧ (rd_T44 l (i : Int)).f0 ≤ 7 := by omega
      have x2 : 0 ≤ (rd_T44 l (i : Int)).f1 ∧ (rd_T44 l (i : Int)).f1 ≤ 1018 := by omega
      unfold inr
      rw [decide_eq_true x1, decide_eq_true x2]; rfl
    have e2 : dupI l i i 0 = false := by
      cases hd : dupI l i i 0 with
      | false => rfl
      | true =>
        obtain ⟨j, _, hj, he⟩ := (dupI_iff l i i 0).1 hd
        have := h.at0 j (by omega)
        omega
    rw [show good l (m + 1) i = (inr (rd_T44 l (i : Int)) && !(dupI l i i 0) && good l m (i + 1)) from rfl, e1, e2, ih (i + 1) (by omega)]; rfl
theorem Sh_ARE {l : List S44} {a n : Nat} {s : Int} {c c' : List Int} (h : Sh l a n s c c') (ha : a + n ≤ 7) (hn : 1 ≤ n) : ARE l = true := by
  unfold ARE
  have hl := h.len
  rw [decide_eq_true (by omega), hl, Sh_good h ha n 0 (by omega)]; rfl
theorem Sh_idx {l : List S44} {a n : Nat} {s : Int} {c c' : List Int} (h : Sh l a n s c c') : idx l = ix a n := by
  have hl := h.len
  apply List.ext_getElem
  · rw [idx_length, hl]; unfold ix; simp
  · intro i h1 h2
    have hi : i < l.length := by rw [← idx_length l]; exact h1
    have h3 := h.at0 i (by omega)
    rw [← rd_idx hi, rd_at h1] at h3
    rw [h3]
    unfold ix
    simp
theorem Sh_IT {l : List S44} {a n : Nat} {s : Int} {c c' : List Int} (h : Sh l a n s c c') (ha : a + n ≤ 7) (hc : c.length < n) (hc' : c'.length < n) (h3 : c.length ≤ 3) (h3' : c'.length ≤ 3) (q : Nat)
    (hq : ∀ t, t < n → t ≤ 3 → ok a n q t = true) : IT l (q : Int) = ((H c (q : Int) + s + H c' (q : Int)) % 1019, true) := by
  unfold IT
  rw [if_pos (Sh_ARE h ha (by omega)), IP_eq l _ _ _ _ _ (by omega) (by omega), Int.zero_add, Sh_idx h, h.len]
  have hM : ∀ t, t < n → t ≤ 3 → SW (fun i => LW (ix a n) (i : Int) (q : Int)) (fun i => ((a + 1 + i : Nat) : Int) ^ t) n 0 % 1019 = (q : Int) ^ t % 1019 := by
    intro t h1 h2
    have := hq t h1 h2
    unfold ok at this
    simpa using this
  generalize (fun i : Nat => LW (ix a n) (i : Int) (q : Int)) = W at hM ⊢
  have e1 := moments W (fun i => ((a + 1 + i : Nat) : Int)) q n c 0 (fun t ht => hM t (by omega) (by omega))
  have e2 := moments W (fun i => ((a + 1 + i : Nat) : Int)) q n c' 0 (fun t ht => hM t (by omega) (by omega))
  have e3 := hM 0 (by omega) (by omega)
  have e4 : SW W (fun i => (rd_T44 l (i : Int)).f1) n 0 % 1019 = SW W (fun i => (H c ((a + 1 + i : Nat) : Int) * ((a + 1 + i : Nat) : Int) ^ 0 + s * ((a + 1 + i : Nat) : Int) ^ 0) + H c' ((a + 1 + i : Nat) : Int) * ((a + 1 + i : Nat) : Int) ^ 0) n 0 % 1019 := by
    refine SW_cong W _ _ n 0 (fun i _ hi => ?_)
    have := h.at1 i (by omega)
    simp only [Int.pow_zero, Int.mul_one]
    exact this
  rw [e4, SW_add W (fun i => H c ((a + 1 + i : Nat) : Int) * ((a + 1 + i : Nat) : Int) ^ 0 + s * ((a + 1 + i : Nat) : Int) ^ 0), SW_add W, SW_mul W]
  rw [Int.add_emod, e2, Int.add_emod (SW W _ n 0), e1, Int.mul_emod s, e3, ← Int.mul_emod, ← Int.add_emod]
  simp only [Int.pow_zero, Int.mul_one]
  congr 1
  clear e1 e2 e3 e4 hM hq
  omega
theorem SL_at (s : Int) (c : List Int) : ∀ (d x i : Nat), i < d → (SL s c d x)[i]? = some ⟨((x + i : Nat) : Int), PO s c ((x + i : Nat) : Int)⟩ := by
  intro d
  induction d with
  | zero => intro x i h; omega
  | succ d ih =>
    intro x i h
    simp only [SL]
    cases i with
    | zero => simp
    | succ i =>
      rw [List.getElem?_cons_succ, ih (x + 1) i (by omega), show x + 1 + i = x + (i + 1) by omega]
theorem rd_some {l : List S44} {i : Nat} {v : S44} (h : l[i]? = some v) : rd_T44 l (i : Int) = v := by
  unfold rd_T44
  rw [List.getD_eq_getElem?_getD, Int.toNat_natCast, h]; rfl
theorem Sh_SL (s : Int) (c : List Int) (d : Nat) : Sh (SL s c d 1) 0 d s c [] := by
  have h : ∀ i, i < d → rd_T44 (SL s c d 1) (i : Int) = ⟨((0 + 1 + i : Nat) : Int), PO s c ((0 + 1 + i : Nat) : Int)⟩ := fun i hi => by
    rw [rd_some (SL_at s c d 1 i hi), Nat.zero_add]
  refine ⟨SL_length s c d 1, fun i hi => by rw [h i hi], fun i hi => by rw [h i hi]; exact PO_rng _ _ _, fun i hi => ?_⟩
  rw [h i hi]
  show PO s c _ % 1019 = _
  rw [PO_H, Int.emod_emod_of_dvd _ (Int.dvd_refl 1019)]
  simp [H]
theorem Sh_window {l : List S44} {m : Nat} {s : Int} {c c' : List Int} (h : Sh l 0 m s c c') (d n : Nat) (hd : d + n ≤ m) : Sh ((l.take (d + n)).drop d) d n s c c' := by
  have hl := h.len
  have e : ∀ i, i < n → rd_T44 ((l.take (d + n)).drop d) (i : Int) = rd_T44 l ((d + i : Nat) : Int) := fun i hi => by
    unfold rd_T44
    rw [List.getD_eq_getElem?_getD, List.getD_eq_getElem?_getD, Int.toNat_natCast, Int.toNat_natCast, List.getElem?_drop, List.getElem?_take, if_pos (by omega)]
  refine ⟨by rw [List.length_drop, List.length_take]; omega, fun i hi => ?_, fun i hi => ?_, fun i hi => ?_⟩
  · rw [e i hi, h.at0 (d + i) (by omega)]; congr 1; omega
  · rw [e i hi]; exact h.rng (d + i) (by omega)
  · rw [e i hi, h.at1 (d + i) (by omega), show 0 + 1 + (d + i) = d + 1 + i by omega]
theorem Sh_RF {l : List S44} {m : Nat} {s : Int} {c : List Int} (h : Sh l 0 m s c []) (hA : ARE l = true) (c' : List Int) : Sh (RF l c') 0 m s c c' := by
  have hl := h.len
  have hR : RF l c' = l.map fun x => ⟨x.f0, (x.f1 + PO 0 c' x.f0) % 1019⟩ := by unfold RF; rw [if_pos hA]
  have e : ∀ i, i < m → rd_T44 (RF l c') (i : Int) = ⟨(rd_T44 l (i : Int)).f0, ((rd_T44 l (i : Int)).f1 + PO 0 c' (rd_T44 l (i : Int)).f0) % 1019⟩ := fun i hi => by
    refine rd_some ?_
    rw [hR, List.getElem?_map, List.getElem?_eq_getElem (show i < l.length by omega), rd44_at (show i < l.length by omega)]; rfl
  refine ⟨by rw [hR, List.length_map]; exact hl, fun i hi => by rw [e i hi]; exact h.at0 i hi, fun i hi => by rw [e i hi]; exact emod_rng _, fun i hi => ?_⟩
  rw [e i hi]
  have h1 := h.at1 i hi
  have h0 := h.at0 i hi
  show ((rd_T44 l (i : Int)).f1 + PO 0 c' (rd_T44 l (i : Int)).f0) % 1019 % 1019 = _
  rw [h0, PO_H]
  simp only [H] at h1 ⊢
  generalize H c ((0 + 1 + i : Nat) : Int) = u at *
  generalize H c' ((0 + 1 + i : Nat) : Int) = v at *
  generalize (rd_T44 l (i : Int)).f1 = z at *
  omega
theorem min_two {n : Nat} : spec_Min.f (n : Int) 2 = some (((min n 2 : Nat)) : Int) := by
  unfold spec_Min.f
  split <;> (congr 1; omega)
theorem jw {m n : Nat} (h : n + 1 ≤ m) (h7 : m ≤ 7) : wrap64 ((m : Int) - (n : Int)) = ((m - n : Nat) : Int) := by rw [w64 (by omega) (by omega)]; omega
theorem jd {t : Int} {m n : Nat} (h : n + 1 ≤ m) (t0 : 0 ≤ t) : ∃ d : Nat, d + n + 1 ≤ m ∧ Int.tmod t ((m - n : Nat) : Int) = (d : Int) := by
  have em : Int.tmod t ((m - n : Nat) : Int) = t % ((m - n : Nat) : Int) := Int.tmod_eq_emod_of_nonneg t0
  have m0 : 0 ≤ t % ((m - n : Nat) : Int) := Int.emod_nonneg _ (by omega)
  have m1 : t % ((m - n : Nat) : Int) < ((m - n : Nat) : Int) := Int.emod_lt_of_pos _ (by omega)
  obtain ⟨d, hd⟩ := Int.eq_ofNat_of_zero_le m0
  exact ⟨d, by rw [hd] at m1; omega, by rw [em, hd]⟩
theorem je1 {d n : Nat} (h : d + n ≤ 7) : wrap64 (wrap64 ((d : Int) + (n : Int)) + 1) = ((d + (n + 1) : Nat) : Int) := by rw [w64 (n := (d : Int) + (n : Int)) (by omega) (by omega), w64 (by omega) (by omega)]; omega
theorem je2 {n : Nat} (h : n ≤ 7) : wrap64 ((n : Int) + 1) = ((n + 1 : Nat) : Int) := by rw [w64 (by omega) (by omega)]; omega
theorem je3 {m : Nat} (h : 1 ≤ m) (h7 : m ≤ 7) : wrap64 ((m : Int) - 1) = ((m - 1 : Nat) : Int) := by rw [w64 (by omega) (by omega)]; omega
theorem zz {s : Int} {c : List Int} (s0 : 0 ≤ s) (s1 : s < 1019) (hc3 : c.length ≤ 3) {x : List S44} {a n : Nat} {c' : List Int} (hx : Sh x a n s c c') (h1 : a + n ≤ 7) (h2 : c.length < n) (h3 : c'.length < n) (h4 : c'.length ≤ 3) : IT x 0 = (s, true) := by
  have := Sh_IT hx h1 h2 h3 hc3 h4 0 (fun t ht h3 => ok_zero h1 ht h3)
  rw [show ((0 : Nat) : Int) = 0 from rfl, H_zero, H_zero, Int.zero_add, Int.add_zero, Int.emod_eq_of_lt s0 s1] at this
  exact this
theorem zm {s : Int} {c : List Int} {n m : Nat} (hn : n ≤ 3) (hm : n + 1 ≤ m) (hm7 : m ≤ 7) (hc : c.length = n) {l : List S44} (h : Sh l 0 m s c []) : IT (l.take (n + 1)) (m : Int) = ((rd_T44 l ((m - 1 : Nat) : Int)).f1, true) := by
  have hw := Sh_window h 0 (n + 1) (by omega)
  rw [List.drop_zero, Nat.zero_add] at hw
  have := Sh_IT hw (by omega) (by omega) (by simp) (by omega) (by simp) m (fun t ht _ => ok_first (by omega) (by omega) ht)
  have h1 := h.at1 (m - 1) (by omega)
  have h2 := h.rng (m - 1) (by omega)
  rw [show 0 + 1 + (m - 1) = m by omega] at h1
  rw [this, ← h1, Int.emod_eq_of_lt h2.1 h2.2]
theorem zf {s : Int} {c c' : List Int} {m : Nat} (hm : 1 ≤ m) {l : List S44} (h : Sh l 0 m s c c') : (rd_T44 l ((m - 1 : Nat) : Int)).f0 = (m : Int) := by
  have hf0 := h.at0 (m - 1) (by omega)
  rw [show 0 + 1 + (m - 1) = m by omega] at hf0
  exact hf0
theorem j1_ok (l0 : List Int) (hb : ∀ x ∈ l0, (Lit.int .u8 x).wf = true) (hl : l0.length ≤ 1048576) (n m : Nat) (hn : n ≤ 3) (hm : n + 1 ≤ m) (hm7 : m ≤ 7) (s : Int) (s0 : 0 ≤ s) (s1 : s < 1019) (c : List Int) (hc : c.length = n) (l : List S44) (h : Sh l 0 m s c []) (k : Nat) (hk : 20000000000000 ≤ k) :
    laws_FnShares.j1 (k + 1) l0 (n : Int) (m : Int) s l false = some true := by
  have hlen := h.len
  have hA := Sh_ARE h (by omega) (by omega)
  obtain ⟨a, ea, _⟩ := laws_at_ok l0 hb hl 8 (by omega) (by omega)
  obtain ⟨b, eb, _⟩ := laws_at_ok l0 hb hl 9 (by omega) (by omega)
  obtain ⟨t, et, t0, t1⟩ := laws_at_ok l0 hb hl 10 (by omega) (by omega)
  have hc2 : (([a, b] : List Int).take (min n 2)).length = min n 2 := by rw [List.length_take]; simp
  have hR := Sh_RF h hA (([a, b] : List Int).take (min n 2))
  have hRA := Sh_ARE hR (by omega) (by omega)
  have hlen' := hR.len
  obtain ⟨d, hd, ed⟩ := jd (t := t) hm t0
  have i1 := zz s0 s1 (by omega) (Sh_window h d (n + 1) (by omega)) (by omega) (by omega) (by simp) (by simp)
  have i2 := zz s0 s1 (by omega) h (by omega) (by omega) (by simp; omega) (by simp)
  have i3 := zz s0 s1 (by omega) (Sh_window hR d (n + 1) (by omega)) (by omega) (by omega) (by omega) (by omega)
  have i4 := zm hn hm hm7 hc h
  have hf0 := zf (by omega) h
  have hd7 : d + n ≤ 7 := by omega
  have hn7 : n ≤ 7 := by omega
  have h1m : 1 ≤ m := by omega
  have q2 : ((min n 2 : Nat) : Int) ≤ (([a, b] : List Int).length : Int) := by simp; omega
  have er := impl_RefreshShares_eq (k := k) (by omega) l (([a, b] : List Int).take (min n 2)) (by omega)
  generalize RF l (([a, b] : List Int).take (min n 2)) = l' at *
  clear hR h hc2 t0 t1 s0 s1 hA
  simp only [laws_FnShares.j1]
  rw [if_neg (by simp), ea]; simp only [Option.bind_some]
  rw [eb]; simp only [Option.bind_some]
  rw [min_two]; simp only [Option.bind_some]
  rw [if_pos (by omega), if_pos q2, Int.toNat_natCast, er]; simp only [Option.bind_some]
  rw [if_pos (by omega), et]; simp only [Option.bind_some]
  rw [jw hm hm7, ed, je1 hd7, je2 hn7, je3 h1m hm7]
  clear ed
  rw [if_neg (by omega), if_pos (by omega), if_pos (by omega), if_pos (by omega), Int.toNat_natCast, Int.toNat_natCast, impl_Interpolate_eq (by omega), i1]; simp only [Option.bind_some]
  rw [impl_Interpolate_eq (by omega), i2]; simp only [Option.bind_some]
  rw [if_pos (by omega), impl_Interpolate_eq (by omega), i3]; simp only [Option.bind_some]
  rw [if_pos (by omega), if_pos (by omega), if_pos (by omega), if_pos (by omega), Int.toNat_natCast, hf0, impl_Interpolate_eq (by omega), i4]; simp only [Option.bind_some]
  simp only [↓reduceIte]
  rw [impl_AreShares_eq k l', hRA]; rfl
theorem p7 {n : Nat} (h : n ≤ 3) : wrap64 (7 - (n : Int)) = ((7 - n : Nat) : Int) := by rw [w64 (by omega) (by omega)]; omega
theorem p3 {n e : Nat} (h : n + 1 + e ≤ 7) : wrap64 (wrap64 ((n : Int) + 1) + (e : Int)) = ((n + 1 + e : Nat) : Int) := by rw [w64 (n := (n : Int) + 1) (by omega) (by omega), w64 (by omega) (by omega)]; omega
theorem pa {a : Int} (a0 : 0 ≤ a) : ∃ n : Nat, n ≤ 3 ∧ Int.tmod a 4 = (n : Int) := by
  have em : Int.tmod a 4 = a % 4 := Int.tmod_eq_emod_of_nonneg a0
  have x0 : 0 ≤ a % 4 := Int.emod_nonneg _ (by omega)
  have x1 : a % 4 < 4 := Int.emod_lt_of_pos _ (by omega)
  obtain ⟨n, hn⟩ := Int.eq_ofNat_of_zero_le x0
  exact ⟨n, by omega, by rw [em, hn]⟩
theorem pd {b : Int} {n : Nat} (h : n ≤ 3) (b0 : 0 ≤ b) : ∃ e : Nat, n + 1 + e ≤ 7 ∧ Int.tmod b ((7 - n : Nat) : Int) = (e : Int) := by
  have em : Int.tmod b ((7 - n : Nat) : Int) = b % ((7 - n : Nat) : Int) := Int.tmod_eq_emod_of_nonneg b0
  have m0 : 0 ≤ b % ((7 - n : Nat) : Int) := Int.emod_nonneg _ (by omega)
  have m1 : b % ((7 - n : Nat) : Int) < ((7 - n : Nat) : Int) := Int.emod_lt_of_pos _ (by omega)
  obtain ⟨d, hd⟩ := Int.eq_ofNat_of_zero_le m0
  exact ⟨d, by rw [hd] at m1; omega, by rw [em, hd]⟩
theorem l0_ok (l0 : List Int) (hb : ∀ x ∈ l0, (Lit.int .u8 x).wf = true) (hl : l0.length ≤ 1048576) (n m : Nat) (hn : n ≤ 3) (hm : n + 1 ≤ m) (hm7 : m ≤ 7) : ∀ (d i k : Nat) (acc : List Int), i + d = n → acc.length = i → d + 20000000000010 ≤ k → laws_FnShares.l0 k l0 (n : Int) (m : Int) acc (i : Int) = some true := by
  intro d
  induction d with
  | zero =>
    intro i k acc hi hacc hk
    obtain ⟨k, rfl⟩ : ∃ j, k = j + 1 + 1 := ⟨k - 2, by omega⟩
    conv => lhs; unfold laws_FnShares.l0
    obtain ⟨t, et, t0, t1⟩ := laws_at_ok l0 hb hl 7 (by omega) (by omega)
    rw [if_neg (by omega), et]; simp only [Option.bind_some]
    rw [w64 (n := t * 3) (by omega) (by omega)]
    have eS : SH (t * 3) acc (m : Int) = SL (t * 3) acc m 1 := by
      unfold SH
      rw [if_pos ⟨⟨by omega, by omega⟩, by omega⟩, Int.toNat_natCast]
    have hS := Sh_SL (t * 3) acc m
    rw [impl_ShareSecret_eq (by omega), eS]; simp only [Option.bind_some]
    rw [if_pos (by rw [SL_length]), impl_AreShares_eq, Sh_ARE hS (by omega) (by omega)]; simp only [Option.bind_some, Bool.not_true]
    exact j1_ok l0 hb hl n m hn hm hm7 (t * 3) (by omega) (by omega) acc (by omega) _ hS k (by omega)
  | succ d ih =>
    intro i k acc hi hacc hk
    obtain ⟨k, rfl⟩ : ∃ j, k = j + 1 := ⟨k - 1, by omega⟩
    simp only [laws_FnShares.l0]
    obtain ⟨t, et, t0, t1⟩ := laws_at_ok l0 hb hl ((i : Int) + 2) (by omega) (by omega)
    rw [if_pos (by omega), w64 (n := (i : Int) + 2) (by omega) (by omega), et]; simp only [Option.bind_some]
    rw [if_pos (by omega), nxt (by omega)]
    exact ih (i + 1) k _ (by omega) (by rw [List.length_append, hacc]; rfl) (by omega)
theorem proved : laws_FnShares.Pure := by
  intro l0 _ _ hb
  obtain ⟨K, hK⟩ : ∃ K : Nat, 90000000000000 ≤ K := ⟨_, Nat.le_refl _⟩
  refine ⟨K, ?_⟩
  unfold laws_FnShares.f
  rw [laws_big_eq]; simp only [Option.bind_some]
  by_cases hl : (l0.length : Int) > 1048576
  · rw [if_pos (by simpa using hl)]
  rw [if_neg (by simpa using hl)]
  obtain ⟨a, ea, a0, a1⟩ := laws_at_ok l0 hb (by omega) 0 (by omega) (by omega)
  obtain ⟨b, eb, b0, b1⟩ := laws_at_ok l0 hb (by omega) 1 (by omega) (by omega)
  simp only [ea, eb, Option.bind_some]
  obtain ⟨n, hn, en⟩ := pa a0
  obtain ⟨e, he, ee⟩ := pd hn b0
  rw [en, p7 hn, ee, p3 he]
  clear en ee ea eb
  rw [if_neg (by omega)]
  exact l0_ok l0 hb (by omega) n (n + 1 + e) hn (by omega) he n 0 K [] (by omega) rfl (by omega)
end KFnShares
theorem FnShares : laws_FnShares.Pure := KFnShares.proved
end Go.Proofs.Ytclfiaafeaocjaa.Pure
