/- Plain facts on whole numbers, bits, powers and lists; no program stands in them. -/
import Derived.Test.YthfhejfidmhklaaDoorWMore
import Derived.Laws.BitsLemmas
import Derived.OpenShut
namespace Go.Proofs.YthfhejfidmhklaaDoor.Num
open Go.RowKit Go.Proofs.YthfhejfidmhklaaDoorW.PrintWords Go.Proofs.YthfhejfidmhklaaDoorW.PrintLast

/-! ### whole numbers of 64 bits -/
theorem w64 {n : Int} (h0 : -9223372036854775808 ≤ n) (h1 : n ≤ 9223372036854775807) : wrap64 n = n := by
  unfold wrap64; omega
theorem wrap64_range (n : Int) : -9223372036854775808 ≤ wrap64 n ∧ wrap64 n ≤ 9223372036854775807 := by
  unfold wrap64; omega
theorem wfi {x : Int} (h : (Lit.int .i64 x).wf = true) : -9223372036854775808 ≤ x ∧ x ≤ 9223372036854775807 := bounds_i64 h
theorem wfb {x : Int} (h : (Lit.int .u8 x).wf = true) : 0 ≤ x ∧ x ≤ 255 := bounds_u8 h

theorem tmod_fix {a m : Int} (h1 : 1 ≤ m) (h2 : m ≤ 1000000000000) : Int.tmod (wrap64 (Int.tmod a m + m)) m = a % m := by
  have e : Int.tmod a m = a % m ∨ Int.tmod a m = a % m - m := by
    rw [Int.tmod_eq_emod]
    split
    · left; omega
    · right; omega
  have r0 : 0 ≤ a % m := Int.emod_nonneg _ (by omega)
  have r1 : a % m < m := Int.emod_lt_of_pos _ (by omega)
  rw [w64 (by omega) (by omega), Int.tmod_eq_emod_of_nonneg (by omega)]
  rcases e with e | e
  · rw [e, Int.add_emod_right, Int.emod_emod_of_dvd _ (Int.dvd_refl m)]
  · rw [e, Int.sub_add_cancel, Int.emod_emod_of_dvd _ (Int.dvd_refl m)]

theorem tmod_two (a m : Int) (h1 : 1 ≤ m) (h2 : m ≤ 1000000000000) : (if Int.tmod a m < 0 then some (wrap64 (Int.tmod a m + m)) else some (Int.tmod a m)) = some (a % m) := by
  have r0 : 0 ≤ a % m := Int.emod_nonneg _ (by omega)
  have r1 : a % m < m := Int.emod_lt_of_pos _ (by omega)
  have e : Int.tmod a m = a % m ∨ (Int.tmod a m = a % m - m ∧ a % m ≠ 0) := by
    rw [Int.tmod_eq_emod]
    split
    · left; omega
    · right
      rename_i h
      refine ⟨by omega, fun h0 => h (.inr (Int.dvd_of_emod_eq_zero h0))⟩
  rcases e with e | ⟨e, e0⟩
  · rw [e, if_neg (by omega)]
  · rw [e, if_pos (by omega), w64 (by omega) (by omega)]
    congr 1
    omega

/-! ### powers -/
theorem tmodmul {m x y : Nat} (hx : x < m) (hy : y < m) (hm : m ≤ 2147483647) : Int.tmod (wrap64 ((x : Int) * (y : Int))) (m : Int) = ((x * y % m : Nat) : Int) := by
  have h : x * y ≤ 2147483647 * 2147483647 := Nat.mul_le_mul (by omega) (by omega)
  have e : (x : Int) * (y : Int) = ((x * y : Nat) : Int) := (Int.natCast_mul x y).symm
  rw [e, w64 (by omega) (by omega), Int.tmod_eq_emod_of_nonneg (by omega)]
  exact (Int.natCast_emod _ _).symm

theorem pow_odd {x n o m : Nat} (h : n % 2 = 1) : (o * x % m) * (x * x % m) ^ (n / 2) % m = o * x ^ n % m := by
  have e : x ^ n = (x * x) ^ (n / 2) * x := by
    have e1 : n = 2 * (n / 2) + 1 := by omega
    calc x ^ n = x ^ (2 * (n / 2) + 1) := by rw [← e1]
      _ = (x * x) ^ (n / 2) * x := by rw [Nat.pow_succ, Nat.pow_mul, Nat.pow_two]
  rw [Nat.mul_mod, Nat.mod_mod, ← Nat.pow_mod, ← Nat.mul_mod, e, Nat.mul_assoc, Nat.mul_comm x]
theorem pow_even {x n o m : Nat} (h : n % 2 = 0) : o * (x * x % m) ^ (n / 2) % m = o * x ^ n % m := by
  have e : x ^ n = (x * x) ^ (n / 2) := by
    have e1 : n = 2 * (n / 2) := by omega
    calc x ^ n = x ^ (2 * (n / 2)) := by rw [← e1]
      _ = (x * x) ^ (n / 2) := by rw [Nat.pow_mul, Nat.pow_two]
  rw [Nat.mul_mod, ← Nat.pow_mod, ← Nat.mul_mod, e]

/-! ### bits -/
theorem wraps_i64 (n : Int) (h0 : 0 ≤ n) (h1 : n < 2 ^ 63) : IntKind.i64.wrap n = n := by
  rw [IntKind.wrap_i64]; omega
theorem and1 {x : Int} (h0 : 0 ≤ x) (h1 : x ≤ 9223372036854775807) : Go.bits .and .i64 x 1 = x % 2 :=
  bits_mask .i64 63 (by decide) wraps_i64 1 (by decide) x h0 (by omega)
theorem and127 {x : Int} (h0 : 0 ≤ x) (h1 : x ≤ 9223372036854775807) : Go.bits .and .i64 x 127 = x % 128 :=
  bits_mask .i64 63 (by decide) wraps_i64 7 (by decide) x h0 (by omega)
theorem and255_range (x : Int) : 0 ≤ Go.bits .and .i64 x 255 ∧ Go.bits .and .i64 x 255 ≤ 255 := by
  have h : (BitVec.ofInt 64 x &&& BitVec.ofInt 64 255).toNat ≤ 255 := by
    rw [BitVec.toNat_and]
    exact Nat.and_le_right
  have e : Go.bits .and .i64 x 255 = IntKind.i64.wrap ((BitVec.ofInt 64 x &&& BitVec.ofInt 64 255).toNat : Nat) := rfl
  rw [e, wraps_i64 _ (by omega) (by omega)]
  omega

/-! ### lists -/
theorem rd_at {l : List Int} {i : Nat} (h : i < l.length) : rd l (i : Int) = l[i] := by
  unfold rd
  simp [List.getD_eq_getElem?_getD, h]
theorem rd_nat (l : List Int) (i : Nat) : rd l (i : Int) = l[i]?.getD 0 := by
  unfold rd
  simp [List.getD_eq_getElem?_getD]
theorem nxt {i : Nat} (h : i ≤ 9223372036854775806) : wrap64 ((i : Int) + 1) = ((i + 1 : Nat) : Int) := by
  rw [w64 (by omega) (by omega)]; omega

/-! ### the symbolic hash -/
def hstep (d v : Int) : Int := (d * 1000003 + v % 2147483647 + 13) % 2147483647
def Hs (d : Int) (l : List Int) : Int := l.foldl hstep d
def KH (a : Int) (l : List Int) : Int := Hs 11 (a :: (l ++ [a]))
theorem hstep_range (d v : Int) : 0 ≤ hstep d v ∧ hstep d v < 2147483647 := by unfold hstep; omega
theorem Hs_range (l : List Int) : ∀ d : Int, 0 ≤ d → d < 2147483647 → 0 ≤ Hs d l ∧ Hs d l < 2147483647 := by
  induction l with
  | nil => intro d h0 h1; exact ⟨h0, h1⟩
  | cons v l ih => intro d _ _; exact ih _ (hstep_range d v).1 (hstep_range d v).2
theorem KH_range (a : Int) (l : List Int) : 0 ≤ KH a l ∧ KH a l < 2147483647 := Hs_range _ 11 (by omega) (by omega)
theorem hstep_go {d v : Int} (h0 : 0 ≤ d) (h1 : d < 2147483647) : Int.tmod (wrap64 ((wrap64 ((wrap64 (d * 1000003)) + v % 2147483647)) + 13)) 2147483647 = hstep d v := by
  have r0 : 0 ≤ v % 2147483647 := Int.emod_nonneg _ (by omega)
  have r1 : v % 2147483647 < 2147483647 := Int.emod_lt_of_pos _ (by omega)
  rw [w64 (n := d * 1000003) (by omega) (by omega), w64 (n := d * 1000003 + v % 2147483647) (by omega) (by omega), w64 (by omega) (by omega), Int.tmod_eq_emod_of_nonneg (by omega)]
  rfl
theorem Hs_drop {l : List Int} {i : Nat} (d : Int) (h : i < l.length) : Hs d (l.drop i) = Hs (hstep d l[i]) (l.drop (i + 1)) := by
  rw [List.drop_eq_getElem_cons h]; rfl

/-! ### the small group -/
def ord : Nat := 1019
def inx : Nat := 1017
def gel (x : Nat) : Bool := decide (1 ≤ x) && decide (x ≤ 2038) && (x ^ ord % 2039 == 1)
def G (x : Int) : Bool := gel x.toNat
def PG (g n : Int) : Int := if G g = true then ((g.toNat ^ (n % 1019).toNat % 2039 : Nat) : Int) else 0
def MG (a b : Int) : Int := if G a = true ∧ G b = true then a * b % 2039 else 0
def IV (n : Int) : Int := (((n % 1019).toNat ^ inx % 1019 : Nat) : Int)
theorem gel_elim {x : Nat} (h : gel x = true) : 1 ≤ x ∧ x ≤ 2038 ∧ x ^ ord % 2039 = 1 := by
  unfold gel at h
  simp only [Bool.and_eq_true, decide_eq_true_eq, beq_iff_eq] at h
  exact ⟨h.1.1, h.1.2, h.2⟩
theorem gel_intro {x : Nat} (h0 : 1 ≤ x) (h1 : x ≤ 2038) (h : x ^ ord % 2039 = 1) : gel x = true := by
  unfold gel
  simp only [Bool.and_eq_true, decide_eq_true_eq, beq_iff_eq]
  exact ⟨⟨h0, h1⟩, h⟩
theorem G_elim {x : Int} (h : G x = true) : 1 ≤ x ∧ x ≤ 2038 := by
  have := gel_elim (x := x.toNat) h
  omega
theorem G_out {x : Int} (h : ¬ (1 ≤ x ∧ x ≤ 2038)) : G x = false := by
  cases hg : G x with
  | false => rfl
  | true => exact absurd (G_elim hg) h
theorem gel_pow_mod {x : Nat} (h : gel x = true) (n : Nat) : x ^ n % 2039 = x ^ (n % 1019) % 2039 := by
  obtain ⟨_, _, h1⟩ := gel_elim h
  have e0 : (1019 : Nat) = ord := rfl
  rw [e0]
  generalize ord = q at *
  have e : n = q * (n / q) + n % q := (Nat.div_add_mod n q).symm
  have e1 : x ^ n = (x ^ q) ^ (n / q) * x ^ (n % q) := by
    calc x ^ n = x ^ (q * (n / q) + n % q) := by rw [← e]
      _ = _ := by rw [Nat.pow_add, Nat.pow_mul]
  rw [e1, Nat.mul_mod, Nat.pow_mod, h1, Nat.one_pow]
  simp
theorem gel_lt {x : Nat} (h : gel x = true) : x < 2039 := by have := gel_elim h; omega
theorem zero_ord : 0 ^ ord % 2039 ≠ 1 := by decide +kernel
theorem gel_of_pow {x : Nat} (h : gel x = true) (n : Nat) : gel (x ^ n % 2039) = true := by
  have h2 : (x ^ n % 2039) ^ ord % 2039 = 1 := by
    have e : n * ord % 1019 = 0 := Nat.mul_mod_left n ord
    rw [← Nat.pow_mod, ← Nat.pow_mul, gel_pow_mod h, e, Nat.pow_zero]
  refine gel_intro ?_ ?_ h2
  · rcases Nat.eq_zero_or_pos (x ^ n % 2039) with h0 | h0
    · rw [h0] at h2
      exact absurd h2 zero_ord
    · exact h0
  · have := Nat.mod_lt (x ^ n) (show 0 < 2039 by omega)
    omega
theorem gel_mul {x y : Nat} (hx : gel x = true) (hy : gel y = true) : gel (x * y % 2039) = true := by
  obtain ⟨_, _, h1⟩ := gel_elim hx
  obtain ⟨_, _, h2⟩ := gel_elim hy
  have h3 : (x * y % 2039) ^ ord % 2039 = 1 := by
    rw [← Nat.pow_mod, Nat.mul_pow, Nat.mul_mod, h1, h2]
  refine gel_intro ?_ ?_ h3
  · rcases Nat.eq_zero_or_pos (x * y % 2039) with h0 | h0
    · rw [h0] at h3
      exact absurd h3 zero_ord
    · exact h0
  · have := Nat.mod_lt (x * y) (show 0 < 2039 by omega)
    omega
theorem gel_one : gel 1 = true := by decide +kernel
theorem gel_four : gel 4 = true := by decide +kernel

/-! ### inverses modulo 1019 -/
theorem inv_table : ((List.range 1019).all fun x => x == 0 || (x * (x ^ inx % 1019) % 1019 == 1)) = true := by decide +kernel
theorem inv_at {x : Nat} (h : x < 1019) (h0 : x ≠ 0) : x * (x ^ inx % 1019) % 1019 = 1 := by
  have := List.all_eq_true.1 inv_table x (List.mem_range.2 h)
  simp only [Bool.or_eq_true, beq_iff_eq] at this
  rcases this with h1 | h1
  · exact absurd h1 h0
  · exact h1
theorem inv_unique {x m v : Nat} (hm : m < 1019) (hv : v < 1019) (h : x * m % 1019 = 1) (h' : x * v % 1019 = 1) : m = v := by
  have e : m * (x * v) % 1019 = v * (x * m) % 1019 := by
    rw [Nat.mul_left_comm, Nat.mul_left_comm v, Nat.mul_comm m v]
  rw [Nat.mul_mod, h', Nat.mul_mod v, h] at e
  simp at e
  omega
/-- Of an element other than 1 no power below 1019 is 1. -/
theorem gel_ne_one {x : Nat} (h : gel x = true) (h1 : x ≠ 1) {n : Nat} (hn : n % 1019 ≠ 0) : x ^ n % 2039 ≠ 1 := by
  intro hp
  have hlt : n % 1019 < 1019 := Nat.mod_lt _ (by omega)
  have hi := inv_at hlt hn
  rw [gel_pow_mod h] at hp
  have e : x ^ ((n % 1019) * ((n % 1019) ^ inx % 1019)) % 2039 = 1 := by
    rw [Nat.pow_mul, Nat.pow_mod, hp, Nat.one_pow]
  rw [gel_pow_mod h, hi, Nat.pow_one, Nat.mod_eq_of_lt (gel_lt h)] at e
  exact h1 e
theorem gel_inj {x : Nat} (h : gel x = true) (h1 : x ≠ 1) {a b : Nat} (ha : a < 1019) (hb : b < 1019) (e : x ^ a % 2039 = x ^ b % 2039) : a = b := by
  have key : ∀ {a b : Nat}, a ≤ b → b < 1019 → x ^ a % 2039 = x ^ b % 2039 → a = b := by
    intro a b hab hb e
    by_cases hne : a = b
    · exact hne
    · exfalso
      refine gel_ne_one h h1 (n := b - a) (by rw [Nat.mod_eq_of_lt (by omega)]; omega) ?_
      have e2 : x ^ a * x ^ (1019 - a) % 2039 = x ^ b * x ^ (1019 - a) % 2039 := by
        rw [Nat.mul_mod, e, ← Nat.mul_mod]
      rw [← Nat.pow_add, ← Nat.pow_add, gel_pow_mod h (a + (1019 - a)), gel_pow_mod h (b + (1019 - a)),
        show (a + (1019 - a)) % 1019 = 0 by omega, show (b + (1019 - a)) % 1019 = b - a by omega] at e2
      rw [← e2]
      rfl
  rcases Nat.le_total a b with hab | hab
  · exact key hab hb e
  · exact (key hab ha e.symm).symm

/-! ### the group over whole numbers -/
theorem G_nat (x : Nat) : G (x : Int) = gel x := rfl
theorem toNat_nat (x : Nat) : ((x : Nat) : Int).toNat = x := rfl
theorem PG_of {g : Int} (h : G g = true) (n : Int) : PG g n = ((g.toNat ^ (n % 1019).toNat % 2039 : Nat) : Int) := by
  unfold PG; rw [if_pos h]
theorem G_PG {g : Int} (h : G g = true) (n : Int) : G (PG g n) = true := by
  rw [PG_of h, G_nat]; exact gel_of_pow h _
theorem MG_of {a b : Int} (ha : G a = true) (hb : G b = true) : MG a b = ((a.toNat * b.toNat % 2039 : Nat) : Int) := by
  have h1 := G_elim ha
  have h2 := G_elim hb
  unfold MG
  rw [if_pos ⟨ha, hb⟩]
  obtain ⟨x, rfl⟩ := Int.eq_ofNat_of_zero_le (show 0 ≤ a by omega)
  obtain ⟨y, rfl⟩ := Int.eq_ofNat_of_zero_le (show 0 ≤ b by omega)
  rw [Int.toNat_natCast, Int.toNat_natCast, ← Int.natCast_mul]
  exact (Int.natCast_emod _ _).symm
theorem G_MG {a b : Int} (ha : G a = true) (hb : G b = true) : G (MG a b) = true := by
  rw [MG_of ha hb, G_nat]; exact gel_mul ha hb
/-- A power of a power, and products of powers, of one element. -/
theorem PG_exp {g : Int} {n m : Int} (e : n % 1019 = m % 1019) : PG g n = PG g m := by
  unfold PG; rw [e]
theorem PG_nat {g : Int} (h : G g = true) (n : Nat) : PG g (n : Int) = ((g.toNat ^ n % 2039 : Nat) : Int) := by
  rw [PG_of h]
  have e : ((n : Int) % 1019).toNat = n % 1019 := by omega
  rw [e, ← gel_pow_mod h]
theorem PG_PG {g : Int} (h : G g = true) (a b : Nat) : PG (PG g (a : Int)) (b : Int) = PG g ((a * b : Nat) : Int) := by
  rw [PG_nat (G_PG h _), PG_nat h, PG_nat h, Int.toNat_natCast, Nat.pow_mul, ← Nat.pow_mod]
theorem MG_PG {g : Int} (h : G g = true) (a b : Nat) : MG (PG g (a : Int)) (PG g (b : Int)) = PG g ((a + b : Nat) : Int) := by
  rw [MG_of (G_PG h _) (G_PG h _), PG_nat h, PG_nat h, PG_nat h, Int.toNat_natCast, Int.toNat_natCast, ← Nat.mul_mod, Nat.pow_add]
theorem PG_red {g : Int} (n : Int) : PG g n = PG g (((n % 1019).toNat : Nat) : Int) := by
  refine PG_exp ?_
  omega
def HG (a b : Int) : Int := PG 4 (1 + KH a [89, b] * KH a [89, b] % 2147483647 % 1018)
theorem hsq {h : Int} (h0 : 0 ≤ h) (h1 : h < 2147483647) : wrap64 (1 + Int.tmod (Int.tmod (wrap64 (h * h)) 2147483647) 1018) = 1 + h * h % 2147483647 % 1018 := by
  have h2 : 0 ≤ h * h := Int.mul_nonneg h0 h0
  have h3 : h * h ≤ 2147483647 * 2147483647 := Int.mul_le_mul (by omega) (by omega) h0 (by omega)
  rw [w64 (n := h * h) (by omega) (by omega), Int.tmod_eq_emod_of_nonneg h2, Int.tmod_eq_emod_of_nonneg (by omega), w64 (by omega) (by omega)]
theorem G_four : G 4 = true := gel_four
theorem G_HG (a b : Int) : G (HG a b) = true := G_PG G_four _
theorem HG_ne (a b : Int) : HG a b ≠ 1 := by
  unfold HG
  generalize KH a [89, b] * KH a [89, b] % 2147483647 = z
  rw [PG_of G_four]
  have hz : 0 ≤ z % 1018 ∧ z % 1018 < 1018 := ⟨Int.emod_nonneg _ (by omega), Int.emod_lt_of_pos _ (by omega)⟩
  generalize z % 1018 = y at hz
  have h1 : ((1 + y) % 1019).toNat % 1019 ≠ 0 := by omega
  have : (4 : Int).toNat ^ ((1 + y) % 1019).toNat % 2039 ≠ 1 := gel_ne_one gel_four (by omega) h1
  generalize (4 : Int).toNat ^ ((1 + y) % 1019).toNat % 2039 = w at *
  intro h
  exact this (by omega)
theorem IV_range (n : Int) : 0 ≤ IV n ∧ IV n < 1019 := by
  unfold IV
  have := Nat.mod_lt ((n % 1019).toNat ^ 1017) (show 0 < 1019 by omega)
  omega
theorem zero_inx : (((0 : Int).toNat ^ inx % 1019 : Nat) : Int) = 0 := by decide +kernel
theorem IV_zero {n : Int} (h : n % 1019 = 0) : IV n = 0 := by
  unfold IV; rw [h]; exact zero_inx
theorem IV_mul {n : Int} (h : n % 1019 ≠ 0) : (n % 1019).toNat * (IV n).toNat % 1019 = 1 := by
  unfold IV
  rw [Int.toNat_natCast]
  exact inv_at (by omega) (by omega)
theorem IV_ne {n : Int} (h : n % 1019 ≠ 0) : IV n ≠ 0 := by
  intro h0
  have := IV_mul h
  rw [h0] at this
  simp at this
end Go.Proofs.YthfhejfidmhklaaDoor.Num
