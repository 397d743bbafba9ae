/- The reference's FormatInt answers the decimal numeral, for every int. -/
import Derived.Test.YthfhejfidmhklaaDoorCalls
import Derived.Test.YthfhejfidmhklaaDoorPFnIntegersx3
import Derived.Lib.ItoaLen
set_option linter.unusedVariables false
set_option linter.unusedSimpArgs false
namespace Go.Proofs.YthfhejfidmhklaaDoor.FmtI
open Go.RowKit Go.Proofs.YthfhejfidmhklaaDoor.PFnIntegers Go.Proofs.YthfhejfidmhklaaDoorW.PrintWords Go.Proofs.YthfhejfidmhklaaDoorW.PrintLast

theorem w64 {n : Int} (h0 : -9223372036854775808 ≤ n) (h1 : n ≤ 9223372036854775807) : wrap64 n = n := by
  unfold wrap64; omega
/-- The digits of a number, none for 0. -/
def dgs (m : Nat) : List UInt8 := if m = 0 then [] else Lib.decDigits m
theorem dgs_step {m : Nat} (h : m ≠ 0) : dgs m = dgs (m / 10) ++ [UInt8.ofNat (48 + m % 10)] := by
  unfold dgs
  rw [if_neg h, Lib.decDigits]
  by_cases h1 : m < 10
  · rw [dif_pos h1, if_pos (by omega), show m % 10 = m by omega]; rfl
  · rw [dif_neg h1, if_neg (by omega)]
def str (l : List UInt8) : ByteArray := ⟨l.toArray⟩
theorem str_size (l : List UInt8) : (str l).size = l.length := by unfold str; simp [ByteArray.size]
theorem one_str (d : Nat) (l : List UInt8) : strOfNums [(d : Int)] ++ str l = str (UInt8.ofNat d :: l) := by
  apply WideShapes.bytes_inj
  rw [Joins.data_append, strOfNums_data]
  simp [str]
theorem minus_str (l : List UInt8) : (⟨#[45]⟩ : ByteArray) ++ str l = str (45 :: l) := by
  apply WideShapes.bytes_inj
  rw [Joins.data_append]
  simp [str]
theorem loop (x0 : Int) : ∀ (m k : Nat) (x4 : Int) (l : List UInt8), x4.natAbs = m → -9223372036854775808 ≤ x4 → x4 ≤ 9223372036854775807 → m + 1 ≤ k → l.length + (dgs m).length ≤ 1000 →
    spec_FormatInt.l0 k x0 (str l) x4 = some (str (if x0 < 0 then 45 :: (dgs m ++ l) else dgs m ++ l)) := by
  intro m
  induction m using Nat.strongRecOn with
  | _ m ih =>
    intro k x4 l hx h0 h1 hk hl
    obtain ⟨k, rfl⟩ : ∃ j, k = j + 1 := ⟨k - 1, by omega⟩
    simp only [spec_FormatInt.l0]
    by_cases hz : m = 0
    · subst hz
      rw [if_pos (by omega)]
      have e : dgs 0 = [] := rfl
      rw [e] at hl ⊢
      rw [List.nil_append]
      split
      · rw [if_pos (by rw [str_size]; simp at hl; omega), minus_str]
      · rfl
    · rw [if_neg (by omega)]
      have eS := dgs_step hz
      rw [eS, List.length_append] at hl
      have hqa : (Int.tdiv x4 10).natAbs = m / 10 := by rw [Int.natAbs_tdiv, hx]; rfl
      have hq : wrap64 (Int.tdiv x4 10) = Int.tdiv x4 10 := w64 (by omega) (by omega)
      have hra : (Int.tmod x4 10).natAbs = m % 10 := by rw [Int.natAbs_tmod, hx]; rfl
      have hlt : m / 10 < m := by omega
      have fin : spec_FormatInt.l0 k x0 (str (UInt8.ofNat (48 + m % 10) :: l)) (Int.tdiv x4 10) = some (str (if x0 < 0 then 45 :: (dgs m ++ l) else dgs m ++ l)) := by
        have := ih (m / 10) hlt k (Int.tdiv x4 10) (UInt8.ofNat (48 + m % 10) :: l) hqa (by omega) (by omega) (by omega) (by simp at hl ⊢; omega)
        rw [this, eS]
        simp
      by_cases hneg : Int.tmod x4 10 < 0
      · have ed : (wrap64 (48 + wrap64 (-(Int.tmod x4 10)))) % 256 = ((48 + m % 10 : Nat) : Int) := by
          rw [w64 (n := -(Int.tmod x4 10)) (by omega) (by omega), w64 (by omega) (by omega)]; omega
        rw [if_pos hneg, ed]
        simp only [Option.bind_some]
        rw [one_str, if_pos (by rw [strOfNums_size, str_size]; simp at hl ⊢; omega), hq]
        exact fin
      · have ed : (wrap64 (48 + Int.tmod x4 10)) % 256 = ((48 + m % 10 : Nat) : Int) := by
          rw [w64 (by omega) (by omega)]; omega
        rw [if_neg hneg, ed]
        simp only [Option.bind_some]
        rw [one_str, if_pos (by rw [strOfNums_size, str_size]; simp at hl ⊢; omega), hq]
        exact fin
theorem spec_FormatInt_eq {k : Nat} (hk : 9223372036854775810 ≤ k) {n : Int} (h0 : -9223372036854775808 ≤ n) (h1 : n ≤ 9223372036854775807) : spec_FormatInt.f k n = some (itoaS n) := by
  unfold spec_FormatInt.f
  by_cases hz : n = 0
  · subst hz
    rw [if_pos rfl]
    have : Lib.itoa 0 = [48] := by
      have := Lib.itoa_nonneg 0
      rw [show ((0 : Nat) : Int) = 0 from rfl] at this
      rw [this, Lib.decDigits_one (by omega)]; rfl
    unfold itoaS
    rw [this]
  · rw [if_neg hz]
    have hlen := Lib.itoa_length_le n h0 h1
    have hd : dgs n.natAbs = Lib.decDigits n.natAbs := by unfold dgs; rw [if_neg (by omega)]
    have hle : (dgs n.natAbs).length ≤ 1000 := by
      rw [hd]
      unfold Lib.itoa at hlen
      split at hlen
      · simp at hlen; omega
      · rw [show n.toNat = n.natAbs by omega] at hlen; omega
    have := loop n n.natAbs k n [] rfl h0 h1 (by omega) (by simpa using hle)
    rw [show (⟨#[]⟩ : ByteArray) = str [] from rfl, this, hd]
    unfold itoaS Lib.itoa str
    by_cases hn : n < 0
    · rw [if_pos hn, if_pos hn]; simp
    · rw [if_neg hn, if_neg hn, show n.toNat = n.natAbs by omega]; simp
end Go.Proofs.YthfhejfidmhklaaDoor.FmtI
