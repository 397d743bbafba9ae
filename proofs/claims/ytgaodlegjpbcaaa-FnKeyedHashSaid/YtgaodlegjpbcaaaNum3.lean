/- More plain facts on whole numbers and lists; no program stands in them. -/
import Derived.Test.YtgaodlegjpbcaaaNum
set_option linter.unusedVariables false
namespace Go.Proofs.Ytgaodlegjpbcaaa.Num
open Go.RowKit Go.Proofs.YtgaodlegjpbcaaaW.PrintWords Go.Proofs.YtgaodlegjpbcaaaW.PrintLast

/-! ### powers by squaring, without the power itself -/
def fp (m : Nat) : Nat → Nat → Nat → Nat → Nat
  | 0, _, _, o => o
  | f + 1, x, n, o => if n = 0 then o else if n % 2 = 1 then fp m f (x * x % m) (n / 2) (o * x % m) else fp m f (x * x % m) (n / 2) o
theorem fp_key : fp 2147483647 62 48271 2147483645 1 = 1899818559 := by decide +kernel

/-! ### keys and signatures -/
def PK (a : Int) : Int := if 1 ≤ a ∧ a ≤ 2147483646 then a * 48271 % 2147483647 else 0
def VK (a : Int) : Int := if 1 ≤ a ∧ a ≤ 2147483646 then a * 1899818559 % 2147483647 else 0
def SM (k : Int) (m : List Int) : Int := if 1 ≤ k ∧ k ≤ 2147483646 then KH k (139 :: (m.length : Int) :: m) else 0
def OO (h : Int) : Int := if h = 0 then 1 else h
theorem PK_VK {a : Int} (h : 1 ≤ a ∧ a ≤ 2147483646) : PK (a * 1899818559 % 2147483647) = a := by
  have e : a * 1899818559 % 2147483647 * 48271 % 2147483647 = a := by omega
  unfold PK
  rw [if_pos (by omega), e]

/-! ### ciphers -/
def encB (key : Int) (i : Nat) (b : Int) : Int := (b + KH key [(i : Int)]) % 256
def decB (key : Int) (i : Nat) (b : Int) : Int := (b - KH key [(i : Int)]) % 256
def mapFrom (f : Nat → Int → Int) : Nat → List Int → List Int
  | _, [] => []
  | i, b :: l => f i b :: mapFrom f (i + 1) l
theorem mapFrom_length (f : Nat → Int → Int) (l : List Int) : ∀ i, (mapFrom f i l).length = l.length := by
  induction l with
  | nil => intro i; rfl
  | cons b l ih => intro i; simp [mapFrom, ih]
theorem mapFrom_drop (f : Nat → Int → Int) {l : List Int} {i : Nat} (h : i < l.length) : mapFrom f i (l.drop i) = f i l[i] :: mapFrom f (i + 1) (l.drop (i + 1)) := by
  rw [List.drop_eq_getElem_cons h]; rfl
theorem mapFrom_inv (f g : Nat → Int → Int) (hfg : ∀ i b, 0 ≤ b → b ≤ 255 → g i (f i b) = b) (l : List Int) : ∀ i, (∀ x ∈ l, 0 ≤ x ∧ x ≤ 255) → mapFrom g i (mapFrom f i l) = l := by
  induction l with
  | nil => intro i _; rfl
  | cons b l ih =>
    intro i hb
    have h1 := hb b (List.mem_cons_self ..)
    simp only [mapFrom]
    rw [hfg i b h1.1 h1.2, ih (i + 1) (fun x hx => hb x (List.mem_cons_of_mem _ hx))]
theorem mapFrom_range (f : Nat → Int → Int) (hf : ∀ i b, 0 ≤ f i b ∧ f i b ≤ 255) (l : List Int) : ∀ i, ∀ x ∈ mapFrom f i l, 0 ≤ x ∧ x ≤ 255 := by
  induction l with
  | nil => intro i x hx; simp [mapFrom] at hx
  | cons b l ih =>
    intro i x hx
    simp only [mapFrom, List.mem_cons] at hx
    rcases hx with rfl | hx
    · exact hf i b
    · exact ih _ x hx
theorem enc_range (key : Int) (i : Nat) (b : Int) : 0 ≤ encB key i b ∧ encB key i b ≤ 255 := by unfold encB; omega
theorem dec_range (key : Int) (i : Nat) (b : Int) : 0 ≤ decB key i b ∧ decB key i b ≤ 255 := by unfold decB; omega
theorem dec_enc (key : Int) (i : Nat) (b : Int) (h0 : 0 ≤ b) (h1 : b ≤ 255) : decB key i (encB key i b) = b := by
  unfold decB encB; omega
theorem enc_dec (key : Int) (i : Nat) (b : Int) (h0 : 0 ≤ b) (h1 : b ≤ 255) : encB key i (decB key i b) = b := by
  unfold decB encB; omega
theorem enc_go_spec {b h : Int} (b0 : 0 ≤ b) (b1 : b ≤ 255) (h0 : 0 ≤ h) (h1 : h < 2147483647) : (Int.tmod (wrap64 (wrap64 b + Int.tmod h 256)) 256) % 256 = (b + h) % 256 := by
  rw [w64 (n := b) (by omega) (by omega), Int.tmod_eq_emod_of_nonneg h0, w64 (by omega) (by omega), Int.tmod_eq_emod_of_nonneg (by omega)]; omega
theorem enc_go_impl {b h : Int} (b0 : 0 ≤ b) (b1 : b ≤ 255) (h0 : 0 ≤ h) (h1 : h < 2147483647) : (Int.tmod (wrap64 (wrap64 b + h)) 256) % 256 = (b + h) % 256 := by
  rw [w64 (n := b) (by omega) (by omega), w64 (by omega) (by omega), Int.tmod_eq_emod_of_nonneg (by omega)]; omega
theorem dec_go_spec {b h : Int} (b0 : 0 ≤ b) (b1 : b ≤ 255) (h0 : 0 ≤ h) (h1 : h < 2147483647) : wrap64 (wrap64 b - Int.tmod h 256) % 256 % 256 = (b - h) % 256 := by
  rw [w64 (n := b) (by omega) (by omega), Int.tmod_eq_emod_of_nonneg h0, w64 (by omega) (by omega)]; omega
theorem dec_go_impl {b h : Int} (b0 : 0 ≤ b) (b1 : b ≤ 255) (h0 : 0 ≤ h) (h1 : h < 2147483647) : wrap64 (wrap64 b - h) % 256 % 256 = (b - h) % 256 := by
  rw [w64 (n := b) (by omega) (by omega), w64 (by omega) (by omega)]; omega
end Go.Proofs.Ytgaodlegjpbcaaa.Num
