/- Plain facts on shares of a secret; no program stands in them. -/
import Derived.Test.YtclfiaafeaocjaaNum
set_option linter.unusedVariables false
set_option linter.unusedSimpArgs false
namespace Go.Proofs.Ytclfiaafeaocjaa.Num
open Go.RowKit Go.Proofs.YtclfiaafeaocjaaW.PrintWords Go.Proofs.YtclfiaafeaocjaaW.PrintLast

/-! ### Lagrange weights -/
def gm (l : List Int) (j : Nat) : Int := rd l (j : Int) % 1019
def LS (l : List Int) (p : Int) (i j : Nat) (w : Int) : Int := w * ((p % 1019 - gm l j) % 1019) % 1019 * IV (gm l i - gm l j) % 1019
def LP (l : List Int) (p : Int) (i : Nat) : Nat → Nat → Int → Int
  | 0, _, w => w
  | n + 1, j, w => LP l p i n (j + 1) (if j = i then w else LS l p i j w)
def dr (l : List Int) (a : Nat) : Nat → Nat → Bool
  | 0, _ => false
  | n + 1, b => gm l b == gm l a || dr l a n (b + 1)
def df (l : List Int) : Nat → Nat → Bool
  | 0, _ => false
  | n + 1, a => dr l a a 0 || df l n (a + 1)
def LW (l : List Int) (i p : Int) : Int := if 0 ≤ i ∧ i < (l.length : Int) then (if df l l.length 0 = true then 0 else LP l p i.toNat l.length 0 1) else 0
theorem gm_range (l : List Int) (j : Nat) : 0 ≤ gm l j ∧ gm l j < 1019 := by unfold gm; omega
theorem LS_range (l : List Int) (p : Int) (i j : Nat) (w : Int) : 0 ≤ LS l p i j w ∧ LS l p i j w < 1019 :=
  ⟨Int.emod_nonneg _ (by omega), Int.emod_lt_of_pos _ (by omega)⟩
theorem LP_range (l : List Int) (p : Int) (i : Nat) : ∀ (n j : Nat) (w : Int), 0 ≤ w → w < 1019 → 0 ≤ LP l p i n j w ∧ LP l p i n j w < 1019 := by
  intro n
  induction n with
  | zero => intro j w h0 h1; exact ⟨h0, h1⟩
  | succ n ih =>
    intro j w h0 h1
    simp only [LP]
    refine ih (j + 1) _ ?_ ?_
    · split
      · exact h0
      · exact (LS_range l p i j w).1
    · split
      · exact h1
      · exact (LS_range l p i j w).2
theorem LW_range (l : List Int) (i p : Int) : 0 ≤ LW l i p ∧ LW l i p < 1019 := by
  unfold LW
  split
  · split
    · omega
    · exact LP_range l p _ _ _ _ (by omega) (by omega)
  · omega
theorem mulmod_go {x y : Int} (x0 : 0 ≤ x) (x1 : x < 1019) (y0 : 0 ≤ y) (y1 : y < 1019) : Int.tmod (wrap64 (x * y)) 1019 = x * y % 1019 := by
  have h0 : 0 ≤ x * y := Int.mul_nonneg x0 y0
  have h1 : x * y ≤ 1019 * 1019 := Int.mul_le_mul (by omega) (by omega) y0 (by omega)
  rw [w64 (by omega) (by omega), Int.tmod_eq_emod_of_nonneg h0]
theorem IV_mod (n : Int) : IV (n % 1019) = IV n := by
  unfold IV
  rw [Int.emod_emod_of_dvd _ (Int.dvd_refl 1019)]
theorem step_go {x y z : Int} (x0 : 0 ≤ x) (x1 : x < 1019) (y0 : 0 ≤ y) (y1 : y < 1019) (z0 : 0 ≤ z) (z1 : z < 1019) : Int.tmod (wrap64 (Int.tmod (wrap64 (x * y)) 1019 * z)) 1019 = x * y % 1019 * z % 1019 := by
  rw [mulmod_go x0 x1 y0 y1]
  exact mulmod_go (Int.emod_nonneg _ (by omega)) (Int.emod_lt_of_pos _ (by omega)) z0 z1

/-! ### polynomials modulo 1019 -/
def PO (s : Int) (c : List Int) (x : Int) : Int := (c.foldr (fun a v => (v + a % 1019) * x % 1019) 0 + s % 1019) % 1019
end Go.Proofs.Ytclfiaafeaocjaa.Num
