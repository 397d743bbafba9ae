/- Plain facts on varints; no program stands in them. -/
import Derived.Test.YtipdmghnabchaaaNum
set_option linter.unusedVariables false
set_option linter.unusedSimpArgs false
namespace Go.Proofs.Ytipdmghnabchaaa.Num
open Go.RowKit Go.Proofs.YtipdmghnabchaaaW.PrintWords Go.Proofs.YtipdmghnabchaaaW.PrintLast Go.Proofs.YtipdmghnabchaaaW.PrintMore

/-! ### the weights of a varint's groups -/
def Wt (i : Nat) (w : Int) : Prop := (i = 0 ∧ w = 1) ∨ (i = 1 ∧ w = 128) ∨ (i = 2 ∧ w = 16384) ∨ (i = 3 ∧ w = 2097152) ∨ (i = 4 ∧ w = 268435456) ∨ (i = 5 ∧ w = 34359738368) ∨ (i = 6 ∧ w = 4398046511104)
theorem Wt.zero : Wt 0 1 := .inl ⟨rfl, rfl⟩
theorem Wt.next {i : Nat} {w : Int} (h : Wt i w) (hi : i < 6) : Wt (i + 1) (w * 128) := by
  unfold Wt at *; omega
theorem Wt.bound {i : Nat} {w : Int} (h : Wt i w) : 1 ≤ w ∧ w ≤ 4398046511104 := by
  unfold Wt at h; omega
theorem or_join {n s : Int} (i : Nat) (n0 : 0 ≤ n) (n1 : n < 2 ^ i) (s0 : 0 ≤ s) (hs : s % 2 ^ i = 0) (s1 : s < 2 ^ 63) (n2 : n < 2 ^ 63) : Go.bits .or .i64 n s = n + s := by
  have e : Go.bits .or .i64 n s = Go.bits .or .i64 s n := by
    unfold Go.bits
    simp only [BitVec.or_comm]
  rw [e, bits_join .i64 63 (by decide) wraps_i64 i s n s0 hs s1 n0 n1 n2, Int.add_comm]
theorem shl_go {x : Int} (j : Nat) (p : Int) (hp : (2 : Int) ^ min ((j : Nat) : Int).toNat IntKind.i64.bits = p) (h0 : 0 ≤ x * p) (h1 : x * p < 2 ^ 63) : shl .i64 x (j : Int) = x * p := by
  unfold shl
  rw [hp, wraps_i64 _ h0 h1]
theorem shl_at {i : Nat} {w : Int} (h : Wt i w) (hi : i < 6) {x : Int} (x0 : 0 ≤ x) (x1 : x ≤ 127) : shl .i64 x (wrap64 (7 * (i : Int))) = x * w := by
  have e : wrap64 (7 * (i : Int)) = ((7 * i : Nat) : Int) := by rw [w64 (by omega) (by omega)]; omega
  rw [e]
  rcases h with ⟨rfl, rfl⟩ | ⟨rfl, rfl⟩ | ⟨rfl, rfl⟩ | ⟨rfl, rfl⟩ | ⟨rfl, rfl⟩ | ⟨rfl, rfl⟩ | ⟨rfl, rfl⟩
  · exact shl_go (7 * 0) 1 (by decide) (by omega) (by omega)
  · exact shl_go (7 * 1) 128 (by decide) (by omega) (by omega)
  · exact shl_go (7 * 2) 16384 (by decide) (by omega) (by omega)
  · exact shl_go (7 * 3) 2097152 (by decide) (by omega) (by omega)
  · exact shl_go (7 * 4) 268435456 (by decide) (by omega) (by omega)
  · exact shl_go (7 * 5) 34359738368 (by decide) (by omega) (by omega)
  · omega
theorem or_at {i : Nat} {w : Int} (h : Wt i w) (hi : i < 6) {n x : Int} (n0 : 0 ≤ n) (n1 : n < w) (x0 : 0 ≤ x) (x1 : x ≤ 127) : Go.bits .or .i64 n (x * w) = n + x * w := by
  rcases h with ⟨rfl, rfl⟩ | ⟨rfl, rfl⟩ | ⟨rfl, rfl⟩ | ⟨rfl, rfl⟩ | ⟨rfl, rfl⟩ | ⟨rfl, rfl⟩ | ⟨rfl, rfl⟩
  · exact or_join 0 n0 (by omega) (by omega) (by omega) (by omega) (by omega)
  · exact or_join 7 n0 (by omega) (by omega) (by omega) (by omega) (by omega)
  · exact or_join 14 n0 (by omega) (by omega) (by omega) (by omega) (by omega)
  · exact or_join 21 n0 (by omega) (by omega) (by omega) (by omega) (by omega)
  · exact or_join 28 n0 (by omega) (by omega) (by omega) (by omega) (by omega)
  · exact or_join 35 n0 (by omega) (by omega) (by omega) (by omega) (by omega)
  · omega
theorem group_bound {i : Nat} {w : Int} (h : Wt i w) {n x : Int} (n0 : 0 ≤ n) (n1 : n < w) (x0 : 0 ≤ x) (x1 : x ≤ 127) : 0 ≤ x * w ∧ x * w ≤ 127 * w ∧ n + x * w < w * 128 ∧ w ≤ 4398046511104 := by
  have hb := h.bound
  have h0 : 0 ≤ x * w := Int.mul_nonneg x0 (by omega)
  have h1 : x * w ≤ 127 * w := Int.mul_le_mul_of_nonneg_right x1 (by omega)
  exact ⟨h0, h1, by omega, hb.2⟩

/-! ### reading a varint -/
def RV : Nat → List Int → Int → Int → Nat → Option (Int × Nat)
  | 0, _, _, _, _ => none
  | _ + 1, [], _, _, _ => none
  | f + 1, c :: r, n, w, i =>
    if c < 128 then (if (0 < i ∧ c = 0) ∨ n + c * w > 1000000000000 then none else some (n + c * w, i + 1))
    else RV f r (n + (c - 128) * w) (w * 128) (i + 1)
def out (o : Int) : Option (Int × Nat) → Int × Int × Bool
  | some (v, c) => (v, o + (c : Int), true)
  | none => (0, 0, false)
def RU (l : List Int) (o : Int) : Int × Int × Bool := if 0 ≤ o ∧ o < (l.length : Int) then out o (RV 6 (l.drop o.toNat) 0 1 0) else (0, 0, false)
theorem RV_count : ∀ (f : Nat) (r : List Int) (n w : Int) (i : Nat) (v : Int) (c : Nat), RV f r n w i = some (v, c) → c ≤ i + r.length ∧ i < c ∧ v ≤ 1000000000000 := by
  intro f
  induction f with
  | zero => intro r n w i v c h; simp [RV] at h
  | succ f ih =>
    intro r n w i v c h
    cases r with
    | nil => simp [RV] at h
    | cons b r =>
      simp only [RV] at h
      by_cases hb : b < 128
      · rw [if_pos hb] at h
        by_cases h2 : (0 < i ∧ b = 0) ∨ n + b * w > 1000000000000
        · rw [if_pos h2] at h; simp at h
        · rw [if_neg h2] at h
          simp only [Option.some.injEq, Prod.mk.injEq] at h
          obtain ⟨rfl, rfl⟩ := h
          refine ⟨by simp only [List.length_cons]; omega, by omega, ?_⟩
          generalize n + b * w = z at h2
          omega
      · rw [if_neg hb] at h
        have := ih r _ _ _ _ _ h
        simp only [List.length_cons]
        omega

/-! ### writing a varint -/
def AV : Nat → Int → List Int
  | 0, n => [n]
  | f + 1, n => if 128 ≤ n then (n % 128 + 128) :: AV f (n / 128) else [n]
def AU (b : List Int) (n : Int) : List Int := if 0 ≤ n ∧ n ≤ 1000000000000 then b ++ AV 5 n else b
theorem AV_small (f : Nat) {n : Int} (h : n < 128) : AV f n = [n] := by
  cases f with
  | zero => rfl
  | succ f => simp only [AV]; rw [if_neg (by omega)]
theorem AV_length : ∀ (f : Nat) (n : Int), (AV f n).length ≤ f + 1 ∧ 1 ≤ (AV f n).length := by
  intro f
  induction f with
  | zero => intro n; simp [AV]
  | succ f ih =>
    intro n
    simp only [AV]
    by_cases h : 128 ≤ n
    · rw [if_pos h]; have := ih (n / 128); simp only [List.length_cons]; omega
    · rw [if_neg h]; simp
theorem AV_range : ∀ (f : Nat) (n : Int), 0 ≤ n → n < 128 ^ (f + 1) → ∀ x ∈ AV f n, 0 ≤ x ∧ x ≤ 255 := by
  intro f
  induction f with
  | zero =>
    intro n h0 h1 x hx
    simp only [AV, List.mem_singleton] at hx
    have e : (128 : Int) ^ (0 + 1) = 128 := by decide
    omega
  | succ f ih =>
    intro n h0 h1 x hx
    simp only [AV] at hx
    by_cases h : 128 ≤ n
    · rw [if_pos h] at hx
      rcases List.mem_cons.1 hx with rfl | hx
      · omega
      · refine ih (n / 128) (by omega) ?_ x hx
        rw [Int.pow_succ] at h1
        exact Int.ediv_lt_of_lt_mul (by omega) h1
    · rw [if_neg h, List.mem_singleton] at hx
      omega
theorem AU_length (b : List Int) (n : Int) : (AU b n).length ≤ b.length + 6 := by
  unfold AU
  have := AV_length 5 n
  split
  · rw [List.length_append]; omega
  · omega
theorem pow_128_6 : (128 : Int) ^ (5 + 1) = 4398046511104 := by decide
theorem AU_range (b : List Int) (n : Int) (hb : ∀ x ∈ b, 0 ≤ x ∧ x ≤ 255) : ∀ x ∈ AU b n, 0 ≤ x ∧ x ≤ 255 := by
  unfold AU
  split
  · intro x hx
    rcases List.mem_append.1 hx with hx | hx
    · exact hb x hx
    · exact AV_range 5 n (by omega) (by rw [pow_128_6]; omega) x hx
  · exact hb

/-! ### what was written is read again -/
theorem RV_AV : ∀ (f g : Nat) (n acc w : Int) (i : Nat) (rest : List Int), f < g → 0 ≤ n → n < 128 ^ (f + 1) → (0 < i → 0 < n) → 0 ≤ w → acc + n * w ≤ 1000000000000 →
    RV g (AV f n ++ rest) acc w i = some (acc + n * w, i + (AV f n).length) := by
  intro f
  induction f with
  | zero =>
    intro g n acc w i rest hg h0 h1 hi hw hm
    obtain ⟨g, rfl⟩ : ∃ j, g = j + 1 := ⟨g - 1, by omega⟩
    have e : (128 : Int) ^ (0 + 1) = 128 := by decide
    simp only [AV, List.cons_append, List.nil_append, RV]
    rw [if_pos (by omega), if_neg (by
      intro h
      rcases h with ⟨h2, h3⟩ | h2
      · have := hi h2; omega
      · generalize acc + n * w = z at *; omega)]
    rfl
  | succ f ih =>
    intro g n acc w i rest hg h0 h1 hi hw hm
    obtain ⟨g, rfl⟩ : ∃ j, g = j + 1 := ⟨g - 1, by omega⟩
    by_cases h : 128 ≤ n
    · simp only [AV]
      rw [if_pos h]
      simp only [List.cons_append, RV]
      have e2 : acc + (n % 128 + 128 - 128) * w + n / 128 * (w * 128) = acc + n * w := by
        have e3 : n * w = (n % 128) * w + n / 128 * (w * 128) := by
          have e4 : n = n % 128 + n / 128 * 128 := by omega
          calc n * w = (n % 128 + n / 128 * 128) * w := by rw [← e4]
            _ = (n % 128) * w + n / 128 * (w * 128) := by rw [Int.add_mul, Int.mul_assoc, Int.mul_comm 128 w]
        rw [e3, Int.add_sub_cancel, Int.add_assoc]
      have h5 : n / 128 < 128 ^ (f + 1) := by
        rw [Int.pow_succ] at h1
        exact Int.ediv_lt_of_lt_mul (by omega) h1
      rw [if_neg (by omega), ih g (n / 128) _ (w * 128) (i + 1) rest (by omega) (by omega) h5 (fun _ => by omega) (by omega) (by rw [e2]; exact hm), e2, List.length_cons]
      congr 2
      omega
    · rw [AV_small _ (by omega)]
      simp only [List.cons_append, List.nil_append, RV]
      rw [if_pos (by omega), if_neg (by
        intro h
        rcases h with ⟨h2, h3⟩ | h2
        · have := hi h2; omega
        · generalize acc + n * w = z at *; omega)]
      rfl
theorem RU_AU (b rest : List Int) {n : Int} (h0 : 0 ≤ n) (h1 : n ≤ 1000000000000) : RU (b ++ AV 5 n ++ rest) (b.length : Int) = (n, ((b ++ AV 5 n).length : Int), true) := by
  have hl := AV_length 5 n
  unfold RU
  rw [if_pos (by rw [List.length_append, List.length_append]; omega), Int.toNat_natCast, List.append_assoc, List.drop_left]
  rw [RV_AV 5 6 n 0 1 0 rest (by omega) h0 (by rw [pow_128_6]; omega) (by omega) (by omega) (by omega)]
  simp only [out, List.length_append]
  rw [show 0 + n * 1 = n by omega, show (b.length : Int) + ((0 + (AV 5 n).length : Nat) : Int) = ((b.length + (AV 5 n).length : Nat) : Int) by omega]
/-- A varint that was read is the varint of its number. -/
theorem RV_inv : ∀ (g : Nat) (r : List Int) (acc w : Int) (i : Nat) (v : Int) (c : Nat), (∀ x ∈ r, 0 ≤ x ∧ x ≤ 255) → RV (g + 1) r acc w i = some (v, c) →
    ∃ n, 0 ≤ n ∧ (0 < i → 0 < n) ∧ v = acc + n * w ∧ ∃ rest, r = AV g n ++ rest ∧ c = i + (AV g n).length := by
  intro g
  induction g with
  | zero =>
    intro r acc w i v c hr h
    cases r with
    | nil => simp [RV] at h
    | cons b r =>
      have hb := hr b (List.mem_cons_self ..)
      simp only [RV] at h
      by_cases h1 : b < 128
      · rw [if_pos h1] at h
        by_cases h2 : (0 < i ∧ b = 0) ∨ acc + b * w > 1000000000000
        · rw [if_pos h2] at h; simp at h
        · rw [if_neg h2] at h
          simp only [Option.some.injEq, Prod.mk.injEq] at h
          obtain ⟨rfl, rfl⟩ := h
          exact ⟨b, hb.1, fun hi => by have : b ≠ 0 := fun e => h2 (.inl ⟨hi, e⟩); omega, rfl, r, rfl, rfl⟩
      · rw [if_neg h1] at h; simp [RV] at h
  | succ g ih =>
    intro r acc w i v c hr h
    cases r with
    | nil => simp [RV] at h
    | cons b r =>
      have hb := hr b (List.mem_cons_self ..)
      rw [RV] at h
      by_cases h1 : b < 128
      · rw [if_pos h1] at h
        by_cases h2 : (0 < i ∧ b = 0) ∨ acc + b * w > 1000000000000
        · rw [if_pos h2] at h; simp at h
        · rw [if_neg h2] at h
          simp only [Option.some.injEq, Prod.mk.injEq] at h
          obtain ⟨rfl, rfl⟩ := h
          refine ⟨b, hb.1, fun hi => by have : b ≠ 0 := fun e => h2 (.inl ⟨hi, e⟩); omega, rfl, r, ?_, ?_⟩
          · rw [AV_small _ h1]; rfl
          · rw [AV_small _ h1]; rfl
      · rw [if_neg h1] at h
        obtain ⟨n, n0, n1, ev, rest, er, ec⟩ := ih r _ _ _ _ _ (fun x hx => hr x (List.mem_cons_of_mem _ hx)) h
        have hn := n1 (by omega)
        have ea : AV (g + 1) (b - 128 + n * 128) = b :: AV g n := by
          simp only [AV]
          rw [if_pos (by omega), show (b - 128 + n * 128) % 128 + 128 = b by omega, show (b - 128 + n * 128) / 128 = n by omega]
        refine ⟨b - 128 + n * 128, by omega, fun _ => by omega, ?_, rest, ?_, ?_⟩
        · rw [ev, Int.add_mul, Int.mul_assoc n 128 w, Int.mul_comm 128 w, Int.add_assoc]
        · rw [ea, er]; rfl
        · rw [ea, List.length_cons]; omega
theorem RU_inv {l : List Int} (hb : ∀ x ∈ l, 0 ≤ x ∧ x ≤ 255) {o m a : Int} (h : RU l o = (m, a, true)) :
    0 ≤ o ∧ a ≤ (l.length : Int) ∧ o < a ∧ 0 ≤ m ∧ m ≤ 1000000000000 ∧ ((l.take a.toNat).drop o.toNat) = AV 5 m := by
  unfold RU at h
  by_cases ho : 0 ≤ o ∧ o < (l.length : Int)
  · rw [if_pos ho] at h
    obtain ⟨O, rfl⟩ := Int.eq_ofNat_of_zero_le ho.1
    rw [Int.toNat_natCast] at h ⊢
    cases hr : RV 6 (l.drop O) 0 1 0 with
    | none => rw [hr] at h; simp [out] at h
    | some p =>
      obtain ⟨v, c⟩ := p
      rw [hr] at h
      simp only [out, Prod.mk.injEq, and_true] at h
      obtain ⟨rfl, rfl⟩ := h
      have hc := RV_count _ _ _ _ _ _ _ hr
      obtain ⟨n, n0, _, ev, rest, er, ec⟩ := RV_inv 5 (l.drop O) 0 1 0 v c (fun x hx => hb x (List.mem_of_mem_drop hx)) hr
      rw [List.length_drop] at hc
      obtain rfl : v = n := by omega
      refine ⟨by omega, by omega, by omega, n0, hc.2.2, ?_⟩
      rw [show ((O : Int) + (c : Int)).toNat = O + c by omega, List.drop_take, show O + c - O = c by omega, er, show c = (AV 5 v).length by omega, List.take_left]
  · rw [if_neg ho] at h; simp at h

/-! ### byte strings and lists of numbers -/
def RB (l : List Int) (o m : Int) : List Int × Int × Bool := if (RU l o).2.2 = true ∧ (RU l o).1 ≤ m ∧ (RU l o).1 ≤ (l.length : Int) - (RU l o).2.1 then ((l.take ((RU l o).2.1 + (RU l o).1).toNat).drop (RU l o).2.1.toNat, (RU l o).2.1 + (RU l o).1, true) else ([], 0, false)
def EI (b : List Int) (l : List Int) : List Int := l.foldl AU b
theorem EI_length (l : List Int) : ∀ b, (EI b l).length ≤ b.length + 6 * l.length := by
  induction l with
  | nil => intro b; simp [EI]
  | cons n l ih =>
    intro b
    have h1 := ih (AU b n)
    have h2 := AU_length b n
    simp only [EI, List.foldl_cons, List.length_cons] at *
    omega
theorem EI_range (l : List Int) : ∀ b, (∀ x ∈ b, 0 ≤ x ∧ x ≤ 255) → ∀ x ∈ EI b l, 0 ≤ x ∧ x ≤ 255 := by
  induction l with
  | nil => intro b hb; exact hb
  | cons n l ih => intro b hb; exact ih _ (AU_range b n hb)
theorem EI_prefix (l : List Int) : ∀ b, ∃ rest, EI b l = b ++ rest := by
  induction l with
  | nil => intro b; exact ⟨[], by simp [EI]⟩
  | cons n l ih =>
    intro b
    obtain ⟨r, hr⟩ := ih (AU b n)
    have h2 : ∃ q, AU b n = b ++ q := by
      unfold AU
      split
      · exact ⟨_, rfl⟩
      · exact ⟨[], by simp⟩
    obtain ⟨q, hq⟩ := h2
    refine ⟨q ++ r, ?_⟩
    simp only [EI, List.foldl_cons] at *
    rw [hr, hq, List.append_assoc]
/-- What the decoder answers from 'out' numbers on, with 'd' still to come. -/
def DI (l : List Int) : Nat → Int → List Int → List Int × Int × Bool
  | 0, o, acc => (acc, o, true)
  | d + 1, o, acc => if (RU l o).2.2 = true then DI l d (RU l o).2.1 (acc ++ [(RU l o).1]) else ([], 0, false)
def DD (l : List Int) (o n : Int) : List Int × Int × Bool := if (0 ≤ n ∧ n ≤ 100) ∧ (0 ≤ o ∧ o ≤ (l.length : Int)) then DI l n.toNat o [] else ([], 0, false)
theorem RU_true {l : List Int} {o : Int} (h : (RU l o).2.2 = true) : 0 ≤ (RU l o).2.1 ∧ (RU l o).2.1 ≤ (l.length : Int) ∧ (RU l o).1 ≤ 1000000000000 := by
  unfold RU at h ⊢
  by_cases ho : 0 ≤ o ∧ o < (l.length : Int)
  · rw [if_pos ho] at h ⊢
    cases hr : RV 6 (l.drop o.toNat) 0 1 0 with
    | none => rw [hr] at h; simp [out] at h
    | some p =>
      obtain ⟨v, c⟩ := p
      have hc := RV_count _ _ _ _ _ _ _ hr
      rw [List.length_drop] at hc
      simp only [out]
      omega
  · rw [if_neg ho] at h; simp at h
theorem RU_false {l : List Int} {o : Int} (h : (RU l o).2.2 = false) : RU l o = (0, 0, false) := by
  unfold RU at h ⊢
  by_cases ho : 0 ≤ o ∧ o < (l.length : Int)
  · rw [if_pos ho] at h ⊢
    cases hr : RV 6 (l.drop o.toNat) 0 1 0 with
    | none => rfl
    | some p => rw [hr] at h; simp [out] at h
  · rw [if_neg ho]
theorem RU_end (l : List Int) : RU l (l.length : Int) = (0, 0, false) := by
  unfold RU; rw [if_neg (by omega)]
theorem DI_EI (l : List Int) (hl : ∀ x ∈ l, 0 ≤ x ∧ x ≤ 1000000000000) : ∀ (b acc : List Int) (more : Nat),
    DI (EI b l) (l.length + more) (b.length : Int) acc = DI (EI b l) more ((EI b l).length : Int) (acc ++ l) := by
  induction l with
  | nil => intro b acc more; simp [EI]
  | cons n l ih =>
    intro b acc more
    have hn := hl n (List.mem_cons_self ..)
    obtain ⟨rest, hr⟩ := EI_prefix l (AU b n)
    have e1 : AU b n = b ++ AV 5 n := by unfold AU; rw [if_pos hn]
    have e2 : EI b (n :: l) = EI (AU b n) l := rfl
    have e3 : RU (EI b (n :: l)) (b.length : Int) = (n, ((b ++ AV 5 n).length : Int), true) := by
      rw [e2, hr, e1]; exact RU_AU b rest hn.1 hn.2
    rw [show (n :: l).length + more = (l.length + more) + 1 by simp; omega]
    simp only [DI, e3]
    rw [if_pos (by simp), e2, ← e1, ih (fun x hx => hl x (List.mem_cons_of_mem _ hx)) (AU b n) (acc ++ [n]) more, List.append_assoc]
    rfl
theorem DI_list : ∀ (l : List Int) (d : Nat) (o : Int) (acc : List Int), (DI l d o acc).1.length ≤ acc.length + d := by
  intro l d
  induction d with
  | zero => intro o acc; simp [DI]
  | succ d ih =>
    intro o acc
    simp only [DI]
    split
    · have := ih (RU l o).2.1 (acc ++ [(RU l o).1])
      simp only [List.length_append, List.length_singleton] at this
      omega
    · simp
end Go.Proofs.Ytipdmghnabchaaa.Num
