/- More plain facts on whole numbers; no program stands in them. -/
import Derived.Test.YtgeokjhijihpaaaNum
namespace Go.Proofs.Ytgeokjhijihpaaa.Num
open Go.RowKit Go.Proofs.YtgeokjhijihpaaaW.PrintWords Go.Proofs.YtgeokjhijihpaaaW.PrintLast

/-! ### proofs of equal exponents -/
def PE (g h s n : Int) : Int × Int := if G g = true ∧ G h = true then (KH 97 [g, h, PG g s, PG h s, PG g n, PG h n] % 1019, (n % 1019 - KH 97 [g, h, PG g s, PG h s, PG g n, PG h n] % 1019 * (s % 1019)) % 1019) else (0, 0)
def VE (g h u v c r : Int) : Bool := if G g = true ∧ G h = true ∧ G u = true ∧ G v = true ∧ (0 ≤ c ∧ c ≤ 1018) ∧ (0 ≤ r ∧ r ≤ 1018) then c == KH 97 [g, h, u, v, MG (PG g r) (PG u c), MG (PG h r) (PG v c)] % 1019 else false
theorem resp_go {n c s : Int} (h0 : 0 ≤ n) (h1 : n < 1019) (c0 : 0 ≤ c) (c1 : c < 1019) (s0 : 0 ≤ s) (s1 : s < 1019) : wrap64 (n - wrap64 (c * s)) = n - c * s := by
  have h2 : 0 ≤ c * s := Int.mul_nonneg c0 s0
  have h3 : c * s ≤ 1018 * 1018 := Int.mul_le_mul (by omega) (by omega) s0 (by omega)
  rw [w64 (n := c * s) (by omega) (by omega), w64 (by omega) (by omega)]
/-- What the verifier reckons out of a true proof is what the prover began with. -/
theorem VE_math {g : Int} (hg : G g = true) (s n c : Int) (hc : 0 ≤ c) : MG (PG g ((n % 1019 - c * (s % 1019)) % 1019)) (PG (PG g s) c) = PG g n := by
  obtain ⟨S, hS⟩ := Int.eq_ofNat_of_zero_le (show 0 ≤ s % 1019 from Int.emod_nonneg _ (by omega))
  obtain ⟨R, hR⟩ := Int.eq_ofNat_of_zero_le (show 0 ≤ (n % 1019 - c * (s % 1019)) % 1019 from Int.emod_nonneg _ (by omega))
  obtain ⟨C, rfl⟩ := Int.eq_ofNat_of_zero_le hc
  have e1 : PG g s = PG g (S : Int) := PG_exp (by omega)
  rw [e1, hR, PG_PG hg, MG_PG hg]
  refine PG_exp ?_
  have e2 : ((R + S * C : Nat) : Int) = (R : Int) + (C : Int) * (S : Int) := by
    rw [Int.natCast_add, Int.natCast_mul, Int.mul_comm (C : Int)]
  rw [hS] at hR
  rw [e2, ← hR]
  generalize (C : Int) * (S : Int) = p
  omega
theorem PE_VE {g h : Int} (hg : G g = true) (hh : G h = true) (s n : Int) : VE g h (PG g s) (PG h s) (PE g h s n).1 (PE g h s n).2 = true := by
  unfold PE
  rw [if_pos ⟨hg, hh⟩]
  have hk := KH_range 97 [g, h, PG g s, PG h s, PG g n, PG h n]
  generalize hz : KH 97 [g, h, PG g s, PG h s, PG g n, PG h n] = z at hk
  unfold VE
  have c0 : 0 ≤ z % 1019 := Int.emod_nonneg _ (by omega)
  have c1 : z % 1019 < 1019 := Int.emod_lt_of_pos _ (by omega)
  have m1 : ∀ x : Int, 0 ≤ x % 1019 ∧ x % 1019 ≤ 1018 := fun x => by omega
  rw [if_pos ⟨hg, hh, G_PG hg s, G_PG hh s, ⟨c0, by omega⟩, m1 _⟩]
  simp only [VE_math hg s n _ c0, VE_math hh s n _ c0, hz]
  simp
/-- Every element other than 1 of the group that 4 generates is a power of each other one. -/
theorem HG_form (a b : Int) : ∃ m : Nat, 1 ≤ m ∧ m < 1019 ∧ HG a b = PG 4 (m : Int) := by
  unfold HG
  generalize KH a [89, b] * KH a [89, b] % 2147483647 = z
  refine ⟨(1 + z % 1018).toNat, by omega, by omega, PG_exp (by omega)⟩
theorem HG_other (a b a' b' n : Int) (hn : n % 1019 ≠ 0) : ∃ m : Nat, 1 ≤ m ∧ m < 1019 ∧ PG (HG a b) (m : Int) = PG (HG a' b') n := by
  obtain ⟨p, p1, p2, hp⟩ := HG_form a b
  obtain ⟨q, q1, q2, hq⟩ := HG_form a' b'
  obtain ⟨N, hN⟩ := Int.eq_ofNat_of_zero_le (show 0 ≤ n % 1019 from Int.emod_nonneg _ (by omega))
  have hpi := inv_at (x := p) p2 (by omega)
  generalize p ^ inx % 1019 = v at hpi
  have en : PG (HG a' b') n = PG (HG a' b') (N : Int) := PG_exp (by omega)
  refine ⟨v * (q * N) % 1019, ?_, Nat.mod_lt _ (by omega), ?_⟩
  · have hq0 : q % 1019 ≠ 0 := by omega
    have hN0 : N % 1019 ≠ 0 := by omega
    rcases Nat.eq_zero_or_pos (v * (q * N) % 1019) with h0 | h0
    · exfalso
      have e : p * (v * (q * N)) % 1019 = q * N % 1019 := by
        rw [← Nat.mul_assoc, Nat.mul_mod, hpi, Nat.one_mul, Nat.mod_mod]
      rw [Nat.mul_mod, h0, Nat.mul_zero, Nat.zero_mod] at e
      have hqi := inv_at (x := q) q2 (by omega)
      generalize q ^ inx % 1019 = u at hqi
      have e2 : u * (q * N) % 1019 = N % 1019 := by
        rw [← Nat.mul_assoc, Nat.mul_comm u, Nat.mul_mod, hqi, Nat.one_mul, Nat.mod_mod]
      rw [Nat.mul_mod, ← e, Nat.mul_zero, Nat.zero_mod] at e2
      exact hN0 e2.symm
    · exact h0
  · rw [en, hp, hq, PG_PG G_four, PG_PG G_four]
    refine PG_exp ?_
    have e : p * (v * (q * N) % 1019) % 1019 = q * N % 1019 := by
      rw [Nat.mul_mod, Nat.mod_mod, ← Nat.mul_mod, ← Nat.mul_assoc, Nat.mul_mod, hpi, Nat.one_mul, Nat.mod_mod]
    omega
/-! ### the law of the group -/
theorem grp_add {g : Int} (hg : G g = true) (n a : Int) (ha : 0 ≤ a) : MG (PG g n) (PG g a) = PG g (n % 1019 + a) := by
  obtain ⟨N, hN⟩ := Int.eq_ofNat_of_zero_le (show 0 ≤ n % 1019 from Int.emod_nonneg _ (by omega))
  obtain ⟨A, rfl⟩ := Int.eq_ofNat_of_zero_le ha
  have e1 : PG g n = PG g (N : Int) := PG_exp (by omega)
  rw [e1, MG_PG hg]
  exact PG_exp (by omega)
theorem grp_inv {g : Int} (hg : G g = true) (n : Int) (h : n % 1019 ≠ 0) : PG (PG g n) (IV n) = g := by
  have h1 := IV_mul h
  have h2 := IV_range n
  have hb := G_elim hg
  obtain ⟨N, hN⟩ := Int.eq_ofNat_of_zero_le (show 0 ≤ n % 1019 from Int.emod_nonneg _ (by omega))
  obtain ⟨V, hV⟩ := Int.eq_ofNat_of_zero_le h2.1
  rw [hN, hV, Int.toNat_natCast, Int.toNat_natCast] at h1
  have e1 : PG g n = PG g (N : Int) := PG_exp (by omega)
  rw [e1, hV, PG_PG hg, PG_nat hg, gel_pow_mod hg, h1, Nat.pow_one, Nat.mod_eq_of_lt (gel_lt hg)]
  omega
theorem inv_zero_iff (n : Int) : ((IV n == 0) != (n % 1019 == 0)) = false := by
  by_cases h : n % 1019 = 0
  · rw [IV_zero h, h]; rfl
  · have h1 : (IV n == 0) = false := beq_eq_false_iff_ne.2 (IV_ne h)
    have h2 : (n % 1019 == 0) = false := beq_eq_false_iff_ne.2 h
    rw [h1, h2]; rfl
end Go.Proofs.Ytgeokjhijihpaaa.Num
