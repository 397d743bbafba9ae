/- This text was printed by the kit's printer, run by a program of this claim with stand-ins for two functions that it does not cover (impl.FormatInt, impl.ParseInt); their contracts are written by hand. -/
import Derived.Test.YthfhejfidmhklaaDoorPFnIntegersx0
import Derived.Test.YthfhejfidmhklaaDoorCalls
namespace Go.Proofs.YthfhejfidmhklaaDoor.PFnIntegers
open Go.RowKit Go.Proofs.YthfhejfidmhklaaDoorW.PrintWords Go.Proofs.YthfhejfidmhklaaDoorW.PrintLast Go.Proofs.YthfhejfidmhklaaDoorW.PrintMore
attribute [local go_sem] max2_int min2_int max_two min_two max_three min_three max_four min_four   -- for this text's walks alone
set_option linter.unusedVariables false
set_option linter.unusedSimpArgs false

/-! ### impl_FormatInt, impl_ParseInt: written by hand, over the library's contracts -/
def impl_FormatInt.f (k : Nat) (a0 : Int) : Option (ByteArray) := if -9223372036854775808 ≤ a0 ∧ a0 ≤ 9223372036854775807 then some (itoaS a0) else none
theorem impl_FormatInt.mono : ∀ a0 k, LeO (impl_FormatInt.f k a0) (impl_FormatInt.f (k + 1) a0) := fun _ _ => LeO.refl _
theorem impl_FormatInt.calls (k : Nat) (a0 : Int) (r : ByteArray) (w : World) (hT : Tab w) (h : impl_FormatInt.f k a0 = some r) :
    Calls Tryd.prog 7 #[.int .i64 a0] w fun e w' => e = .returned (.string r) ∧ Below w.heap.size w w' := by
  unfold impl_FormatInt.f at h
  split at h
  · rename_i hb
    obtain rfl := Option.some.inj h
    exact FormatInt_calls a0 hb.1 hb.2 w hT
  · cases h
def impl_ParseInt.f (k : Nat) (a0 : ByteArray) : Option (Int × Bool) := if a0.size ≤ 281474976710656 then some (pInt a0) else none
theorem impl_ParseInt.mono : ∀ a0 k, LeO (impl_ParseInt.f k a0) (impl_ParseInt.f (k + 1) a0) := fun _ _ => LeO.refl _
theorem impl_ParseInt.calls (k : Nat) (a0 : ByteArray) (r1 : Int) (r2 : Bool) (w : World) (hT : Tab w) (hE : Errs w) (h : impl_ParseInt.f k a0 = some (r1, r2)) :
    Calls Tryd.prog 9 #[.string a0] w fun e w' => e = .returned (.tuple #[.int .i64 r1, .bool r2]) ∧ Below w.heap.size w w' := by
  unfold impl_ParseInt.f at h
  split at h
  · rename_i hb
    have he := Option.some.inj h
    have := ParseInt_calls a0 hb w hT hE
    rw [he] at this
    exact this
  · cases h

end Go.Proofs.YthfhejfidmhklaaDoor.PFnIntegers
