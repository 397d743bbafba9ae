/- What impl.FormatInt and impl.ParseInt answer, over the library's contracts on strconv.Itoa and strconv.Atoi. Conditions: the table of powers of ten reads as laid; the two error variables hold an interface value that is not nil. -/
import Derived.Test.YthfhejfidmhklaaDoorShelf
import Derived.WalkKit
import Derived.BigCall
import Derived.Below
import Derived.Lib.SmallJoins
import Derived.Lib.ItoaMem
import Derived.Lib.AtoiErrMem
set_option linter.unusedVariables false
set_option linter.unusedSimpArgs false
namespace Go.Proofs.YthfhejfidmhklaaDoor
open Go.RowKit

abbrev Tab (w : World) : Prop := Lib.TabIs Tryd.prog w "internal/strconv.uint64pow10" .u64 Lib.pow10Tab
theorem grow_below (w : World) (k : Nat) (os : Array Obj) : Below w.heap.size w (Sort.grow (w.drewN k) os) :=
  ⟨rfl, rfl, rfl, by show w.heap.size ≤ (w.heap ++ os).size; simp, fun j hj => by show (w.heap ++ os)[j]? = _; rw [Array.getElem?_append, if_pos hj]⟩
theorem gPow : Tryd.prog.globalNamed "internal/strconv.uint64pow10" = some 2 := by kernel_rfl
theorem Tab.on {w w' : World} {B : Nat} (h : Tab w) (hb : Below B w w') (hB : w.heap.size ≤ B) : Tab w' := Go.Joins.tab_stays gPow h hb hB
def itoaS (n : Int) : ByteArray := ⟨(Lib.itoa n).toArray⟩

theorem Itoa_calls (n : Int) (h0 : -9223372036854775808 ≤ n) (h1 : n ≤ 9223372036854775807) (w : World) (hT : Tab w) :
    Calls Tryd.prog 16 #[.int .i64 n] w fun e w' => e = .returned (.string (itoaS n)) ∧ Below w.heap.size w w' := by
  refine (Any.strconv_Itoa Tryd.lays171 n h0 h1 w hT).mono ?_
  rintro e w' ⟨rfl, k, os, rfl⟩
  exact ⟨rfl, grow_below w k os⟩

set_option maxRecDepth 100000 in
theorem FormatInt_calls (n : Int) (h0 : -9223372036854775808 ≤ n) (h1 : n ≤ 9223372036854775807) (w : World) (hT : Tab w) :
    Calls Tryd.prog 7 #[.int .i64 n] w fun e w' => e = .returned (.string (itoaS n)) ∧ Below w.heap.size w w' := by
  go_enter Tryd.func7, Tryd.ntmps7
  go_wp2_with (go_at_call 16; refine (Itoa_calls n h0 h1 _ hT).mono ?_; rintro e w1 ⟨rfl, hb⟩)
  go_ret
  exact ⟨rfl, hb⟩

/-- What impl.ParseInt answers. -/
def pInt (s : ByteArray) : Int × Bool :=
  match Lib.atoiAll s.data.toList with
  | .ok v => if v < 0 then (0, false) else if v > 1000000000000 then (0, false) else if (itoaS v).toList = s.toList then (v, true) else (0, false)
  | _ => (0, false)
/-- The two error variables hold interface values that are not nil. -/
structure Errs (w : World) : Prop where
  syn : ∃ (tp : TypeId) (p : Value), w.var? Tryd.prog "strconv.ErrSyntax" = some #[.iface tp p]
  rng : ∃ (tp : TypeId) (p : Value), w.var? Tryd.prog "strconv.ErrRange" = some #[.iface tp p]
theorem gSyn : Tryd.prog.globalNamed "strconv.ErrSyntax" = some 0 := by kernel_rfl
theorem gRng : Tryd.prog.globalNamed "strconv.ErrRange" = some 1 := by kernel_rfl
theorem Errs.on {w w' : World} {B : Nat} (h : Errs w) (hb : Below B w w') (hB : w.heap.size ≤ B) : Errs w' := by
  obtain ⟨⟨t0, p0, h0⟩, ⟨t1, p1, h1⟩⟩ := h
  exact ⟨⟨t0, p0, Go.Joins.var_stays gSyn h0 hb hB⟩, ⟨t1, p1, Go.Joins.var_stays gRng h1 hb hB⟩⟩

theorem Atoi_ok (s : ByteArray) (hs : s.size ≤ 9223372036854775806) (v : Int) (h : Lib.atoiAll s.data.toList = .ok v) (w : World) :
    Calls Tryd.prog 18 #[.string s] w fun e w' => e = .returned (.tuple #[.int .i64 v, .nilIface]) ∧ Below w.heap.size w w' := by
  refine (Any.strconv_Atoi_ok Tryd.lays172 s hs v h w).mono ?_
  rintro e w' ⟨rfl, hw⟩
  refine ⟨rfl, ?_⟩
  rcases hw with rfl | ⟨t, rfl⟩
  · exact Below.refl _ _
  · exact Lib.bytesWorld_below _ _ _

set_option maxRecDepth 100000 in
theorem ParseInt_calls (s : ByteArray) (hs : s.size ≤ 281474976710656) (w : World) (hT : Tab w) (hE : Errs w) :
    Calls Tryd.prog 9 #[.string s] w fun e w' => e = .returned (.tuple #[.int .i64 (pInt s).1, .bool (pInt s).2]) ∧ Below w.heap.size w w' := by
  obtain ⟨⟨t0, p0, hv0⟩, ⟨t1, p1, hv1⟩⟩ := hE
  cases h : Lib.atoiAll s.data.toList
  · rename_i v
    obtain ⟨b0, b1⟩ := Lib.atoiAll_bounds h
    by_cases c0 : v < 0
    · have hr : pInt s = (0, false) := by simp only [pInt, h, if_pos c0]
      rw [hr]
      go_enter Tryd.func9, Tryd.ntmps9
      go_wp2_with (go_at_call 18; refine (Atoi_ok s (by omega) v h _).mono ?_; rintro e w1 ⟨rfl, hb⟩)
      go_ret2
      exact ⟨rfl, hb⟩
    by_cases c1 : v > 1000000000000
    · have hr : pInt s = (0, false) := by simp only [pInt, h, if_neg c0, if_pos c1]
      rw [hr]
      go_enter Tryd.func9, Tryd.ntmps9
      go_wp2_with (go_at_call 18; refine (Atoi_ok s (by omega) v h _).mono ?_; rintro e w1 ⟨rfl, hb⟩)
      go_ret2
      exact ⟨rfl, hb⟩
    by_cases c2 : (itoaS v).toList = s.toList
    · have hr : pInt s = (v, true) := by simp only [pInt, h, if_neg c0, if_neg c1, if_pos c2]
      rw [hr]
      have c2b : ((itoaS v).toList == s.toList) = true := beq_iff_eq.mpr c2
      go_enter Tryd.func9, Tryd.ntmps9
      go_wp2_with (first | (go_at_call 18; refine (Atoi_ok s (by omega) v h _).mono ?_; rintro e w1 ⟨rfl, hb⟩) | (go_at_call 16; refine (Itoa_calls v (by omega) (by omega) _ (hT.on hb (Nat.le_refl _))).mono ?_; rintro e w2 ⟨rfl, hb2⟩))
      go_ret2
      exact ⟨rfl, hb.trans (hb2.mono hb.size)⟩
    · have hr : pInt s = (0, false) := by simp only [pInt, h, if_neg c0, if_neg c1, if_neg c2]
      rw [hr]
      have c2b : ((itoaS v).toList == s.toList) = false := beq_eq_false_iff_ne.mpr c2
      go_enter Tryd.func9, Tryd.ntmps9
      go_wp2_with (first | (go_at_call 18; refine (Atoi_ok s (by omega) v h _).mono ?_; rintro e w1 ⟨rfl, hb⟩) | (go_at_call 16; refine (Itoa_calls v (by omega) (by omega) _ (hT.on hb (Nat.le_refl _))).mono ?_; rintro e w2 ⟨rfl, hb2⟩))
      go_ret2
      exact ⟨rfl, hb.trans (hb2.mono hb.size)⟩
  · have hr : pInt s = (0, false) := by simp only [pInt, h]
    rw [hr]
    go_enter Tryd.func9, Tryd.ntmps9
    go_wp2_with (go_at_call 18; refine (Any.strconv_Atoi_syntax_var Tryd.lays172 s hs h t0 p0 _ ?_).mono ?_)
    · exact hv0
    rintro e W1 ⟨N, rfl, -, -, hb⟩
    go_wp2
    go_ret2
    exact ⟨rfl, hb⟩
  · have hr : pInt s = (0, false) := by simp only [pInt, h]
    rw [hr]
    go_enter Tryd.func9, Tryd.ntmps9
    go_wp2_with (go_at_call 18; refine (Any.strconv_Atoi_range_var Tryd.lays172 s hs h t1 p1 _ ?_).mono ?_)
    · exact hv1
    rintro e W1 ⟨N, rfl, -, -, hb⟩
    go_wp2
    go_ret2
    exact ⟨rfl, hb⟩
end Go.Proofs.YthfhejfidmhklaaDoor
