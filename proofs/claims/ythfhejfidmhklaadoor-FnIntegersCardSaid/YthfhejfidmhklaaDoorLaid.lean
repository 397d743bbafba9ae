/- What the listed variables give: the table of powers of ten as laid, the two error variables with interface values that are not nil. -/
import Derived.Test.YthfhejfidmhklaaDoorRows
import Derived.Test.YthfhejfidmhklaaDoorCalls
import Derived.ProofKit
import Derived.LaidMore
import Derived.OpenShut
import Derived.Stop.Joined
import Derived.Stop.LaidErr
import Derived.Lib.LaidTab
set_option linter.unusedVariables false
set_option linter.unusedSimpArgs false
namespace Go.Proofs.YthfhejfidmhklaaDoor.Laid
open Go.ChangeShapes Go.WideShapes Go.ChangeAt Go.RowKit

def laid5 : List (String × DataW Unit) := Rows.fnExactParseIntRow.laid
theorem own : ownKnob Tryd.prog.godebug = none := by kernel_rfl
theorem star : "*" ++ "errors.errorString" = "*errors.errorString" := by decide
theorem row79 (u : TypeId) (h : Tryd.prog.typeName? 3 u = some "*errors.errorString") : u = 79 :=
  typeName_ptr_named (nm := "errors.errorString") (by rw [star]; kernel_rfl) (by kernel_rfl) (by decide) u (by rw [star]; exact h)
theorem gSynType : (Tryd.prog.globals[0]?).map (·.type) = some 36 := by kernel_rfl
theorem gRngType : (Tryd.prog.globals[1]?).map (·.type) = some 36 := by kernel_rfl
theorem cells81 : Tryd.prog.cellsOf 81 = 1 := by kernel_rfl
theorem cells9 : Tryd.prog.cellsOf 9 = 1 := by kernel_rfl
theorem of_laid {W : World} (h : laidMetH Tryd.prog laid5 W) : Tab W ∧ Errs W := by
  have hp : laidMet Tryd.prog laid5 W := by
    rw [MakeChecks.laidMetH_plain _ _ _ (by kernel_rfl)] at h; exact h
  have hT : Tab W := Lib.tabIs_of_head gPow (t := 73) (e := 59) (n := 20) (by kernel_rfl) (by kernel_rfl) (by kernel_rfl) (by kernel_rfl) (by kernel_rfl) (hp.tail.tail)
  obtain ⟨a0, s0, hv0, -, -, -⟩ := laid_sentinel hp.tail.tail.tail gRng gRngType Tryd.underlying36 row79 Tryd.underlying79 Tryd.underlying81 rfl rfl Tryd.underlying9 cells81 cells9
  obtain ⟨a1, s1, hv1, -, -, -⟩ := laid_sentinel hp.tail.tail.tail.tail gSyn gSynType Tryd.underlying36 row79 Tryd.underlying79 Tryd.underlying81 rfl rfl Tryd.underlying9 cells81 cells9
  exact ⟨hT, ⟨_, _, hv1⟩, ⟨_, _, hv0⟩⟩
theorem door_met (os : Os) (args : Array Value) : laidMetH Tryd.prog laid5 ((World.doorLaid Tryd.prog 2000 os).forCall (fun _ _ => 0) ⟨#[], args, []⟩).memory :=
  laidMetH_of_parts3 (fuel := 8) (laidMet_of_run' 8 (by kernel_rfl) (by kernel_rfl)) (by kernel_rfl) (by kernel_rfl)
end Go.Proofs.YthfhejfidmhklaaDoor.Laid
