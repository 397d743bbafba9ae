/-
  No cell of these rows narrows 'for every input' (looked for: loops, veiled, ifaces, maps, wideKeys, modest, calm, conditions, laid).
  DERIVED. THE GIVEN ROWS OF THIS SEAT. 12 by the template 'for every input the law returns true; each argument reads behind the call as it read before'; 0 by the template 'total and deterministic' (their statements: YtgeokjhijihpaaaTotals.lean).
  GIVEN WITH THE SEED: the statements are not yours to turn. If you find one false, say at which input.
  Laid BY PROGRAM, IN A SANDBOX (cutbox-rows.mjs): the forced cells as the released guide's own fill.sh prints them over the translation aefd8cef77825e07… (all of the seat's roots in one cut). By AI agents, Wed Nov 11 2026. No macro, syntax, notation, axiom, sorry.
-/
import Derived.Test.YtgeokjhijihpaaaChecked
import GoSem.Claim
import GoSem.ClaimJoined
import GoSem.ClaimMapViews
import Derived.JoinedTies
import Derived.KernelRfl
namespace Go.Proofs.Ytgeokjhijihpaaa
/- THE CELL 'sum', in the pinned program and in every row, IS THE sha256 OF THE DUMP (.gsa) THAT YtgeokjhijihpaaaProg.lean LOADS. Nothing in Lean hashes anything: it is a label: what it is worth is what the hold of that sum in a sandbox is worth. -/
noncomputable def Try.pinned : Pinned := { name := "ytgeokjhijihpaaa", sum := "aefd8cef77825e076fcf8316c1be5a962f9e3399fed3ba117133425bb4ffcbdd", checked := Try.checked }
namespace Rows
def none {H : Type} : Left H := { results := [], args := [] }

/-- 'laws.FnExactIsGroupElement': WHATEVER THE INPUT: true; the input reads as it did. -/
def fnExactIsGroupElementSpec : ChangeSpec := { name := "fnExactIsGroupElement", fn := fun _ => fun
  | [d] => { results := [.lit (.bool true)], args := [d] }
  | _ => none }
def fnExactIsGroupElementRow : OpenClaim := { program := "ytgeokjhijihpaaa", sum := "aefd8cef77825e076fcf8316c1be5a962f9e3399fed3ba117133425bb4ffcbdd", func := "loop.example/g00581/laws.FnExactIsGroupElement", spec := "fnExactIsGroupElement", apart := false }
def FnExactIsGroupElementSaid : Prop := fnExactIsGroupElementRow.holds Try.pinned (OpenSpec.ofChange fnExactIsGroupElementSpec)

/-- ITS FALSE NEIGHBOUR: 'it returns false'. Refute it at one input. -/
def fnExactIsGroupElementWrong : ChangeSpec := { name := "fnExactIsGroupElement", fn := fun _ => fun
  | [d] => { results := [.lit (.bool false)], args := [d] }
  | _ => none }
def FnExactIsGroupElementWrongFalsely : Prop := fnExactIsGroupElementRow.holds Try.pinned (OpenSpec.ofChange fnExactIsGroupElementWrong)

/-- 'laws.FnExactMulGroup': WHATEVER THE INPUT: true; the input reads as it did. -/
def fnExactMulGroupSpec : ChangeSpec := { name := "fnExactMulGroup", fn := fun _ => fun
  | [d1, d2] => { results := [.lit (.bool true)], args := [d1, d2] }
  | _ => none }
def fnExactMulGroupRow : OpenClaim := { program := "ytgeokjhijihpaaa", sum := "aefd8cef77825e076fcf8316c1be5a962f9e3399fed3ba117133425bb4ffcbdd", func := "loop.example/g00581/laws.FnExactMulGroup", spec := "fnExactMulGroup", apart := false }
def FnExactMulGroupSaid : Prop := fnExactMulGroupRow.holds Try.pinned (OpenSpec.ofChange fnExactMulGroupSpec)

/-- ITS FALSE NEIGHBOUR: 'it returns false'. Refute it at one input. -/
def fnExactMulGroupWrong : ChangeSpec := { name := "fnExactMulGroup", fn := fun _ => fun
  | [d1, d2] => { results := [.lit (.bool false)], args := [d1, d2] }
  | _ => none }
def FnExactMulGroupWrongFalsely : Prop := fnExactMulGroupRow.holds Try.pinned (OpenSpec.ofChange fnExactMulGroupWrong)

/-- 'laws.FnExactPowGroup': WHATEVER THE INPUT: true; the input reads as it did. -/
def fnExactPowGroupSpec : ChangeSpec := { name := "fnExactPowGroup", fn := fun _ => fun
  | [d1, d2] => { results := [.lit (.bool true)], args := [d1, d2] }
  | _ => none }
def fnExactPowGroupRow : OpenClaim := { program := "ytgeokjhijihpaaa", sum := "aefd8cef77825e076fcf8316c1be5a962f9e3399fed3ba117133425bb4ffcbdd", func := "loop.example/g00581/laws.FnExactPowGroup", spec := "fnExactPowGroup", apart := false }
def FnExactPowGroupSaid : Prop := fnExactPowGroupRow.holds Try.pinned (OpenSpec.ofChange fnExactPowGroupSpec)

/-- ITS FALSE NEIGHBOUR: 'it returns false'. Refute it at one input. -/
def fnExactPowGroupWrong : ChangeSpec := { name := "fnExactPowGroup", fn := fun _ => fun
  | [d1, d2] => { results := [.lit (.bool false)], args := [d1, d2] }
  | _ => none }
def FnExactPowGroupWrongFalsely : Prop := fnExactPowGroupRow.holds Try.pinned (OpenSpec.ofChange fnExactPowGroupWrong)

/-- 'laws.FnExactInverseExponent': WHATEVER THE INPUT: true; the input reads as it did. -/
def fnExactInverseExponentSpec : ChangeSpec := { name := "fnExactInverseExponent", fn := fun _ => fun
  | [d] => { results := [.lit (.bool true)], args := [d] }
  | _ => none }
def fnExactInverseExponentRow : OpenClaim := { program := "ytgeokjhijihpaaa", sum := "aefd8cef77825e076fcf8316c1be5a962f9e3399fed3ba117133425bb4ffcbdd", func := "loop.example/g00581/laws.FnExactInverseExponent", spec := "fnExactInverseExponent", apart := false }
def FnExactInverseExponentSaid : Prop := fnExactInverseExponentRow.holds Try.pinned (OpenSpec.ofChange fnExactInverseExponentSpec)

/-- ITS FALSE NEIGHBOUR: 'it returns false'. Refute it at one input. -/
def fnExactInverseExponentWrong : ChangeSpec := { name := "fnExactInverseExponent", fn := fun _ => fun
  | [d] => { results := [.lit (.bool false)], args := [d] }
  | _ => none }
def FnExactInverseExponentWrongFalsely : Prop := fnExactInverseExponentRow.holds Try.pinned (OpenSpec.ofChange fnExactInverseExponentWrong)

/-- 'laws.FnExactDiscreteLog': WHATEVER THE INPUT: true; the input reads as it did. -/
def fnExactDiscreteLogSpec : ChangeSpec := { name := "fnExactDiscreteLog", fn := fun _ => fun
  | [d1, d2] => { results := [.lit (.bool true)], args := [d1, d2] }
  | _ => none }
def fnExactDiscreteLogRow : OpenClaim := { program := "ytgeokjhijihpaaa", sum := "aefd8cef77825e076fcf8316c1be5a962f9e3399fed3ba117133425bb4ffcbdd", func := "loop.example/g00581/laws.FnExactDiscreteLog", spec := "fnExactDiscreteLog", apart := false }
def FnExactDiscreteLogSaid : Prop := fnExactDiscreteLogRow.holds Try.pinned (OpenSpec.ofChange fnExactDiscreteLogSpec)

/-- ITS FALSE NEIGHBOUR: 'it returns false'. Refute it at one input. -/
def fnExactDiscreteLogWrong : ChangeSpec := { name := "fnExactDiscreteLog", fn := fun _ => fun
  | [d1, d2] => { results := [.lit (.bool false)], args := [d1, d2] }
  | _ => none }
def FnExactDiscreteLogWrongFalsely : Prop := fnExactDiscreteLogRow.holds Try.pinned (OpenSpec.ofChange fnExactDiscreteLogWrong)

/-- 'laws.FnExactHashToGroup': WHATEVER THE INPUT: true; the input reads as it did. -/
def fnExactHashToGroupSpec : ChangeSpec := { name := "fnExactHashToGroup", fn := fun _ => fun
  | [d1, d2] => { results := [.lit (.bool true)], args := [d1, d2] }
  | _ => none }
def fnExactHashToGroupRow : OpenClaim := { program := "ytgeokjhijihpaaa", sum := "aefd8cef77825e076fcf8316c1be5a962f9e3399fed3ba117133425bb4ffcbdd", func := "loop.example/g00581/laws.FnExactHashToGroup", spec := "fnExactHashToGroup", apart := false }
def FnExactHashToGroupSaid : Prop := fnExactHashToGroupRow.holds Try.pinned (OpenSpec.ofChange fnExactHashToGroupSpec)

/-- ITS FALSE NEIGHBOUR: 'it returns false'. Refute it at one input. -/
def fnExactHashToGroupWrong : ChangeSpec := { name := "fnExactHashToGroup", fn := fun _ => fun
  | [d1, d2] => { results := [.lit (.bool false)], args := [d1, d2] }
  | _ => none }
def FnExactHashToGroupWrongFalsely : Prop := fnExactHashToGroupRow.holds Try.pinned (OpenSpec.ofChange fnExactHashToGroupWrong)

/-- 'laws.FnExactProveEqual': WHATEVER THE INPUT: true; the input reads as it did. -/
def fnExactProveEqualSpec : ChangeSpec := { name := "fnExactProveEqual", fn := fun _ => fun
  | [d1, d2, d3, d4] => { results := [.lit (.bool true)], args := [d1, d2, d3, d4] }
  | _ => none }
def fnExactProveEqualRow : OpenClaim := { program := "ytgeokjhijihpaaa", sum := "aefd8cef77825e076fcf8316c1be5a962f9e3399fed3ba117133425bb4ffcbdd", func := "loop.example/g00581/laws.FnExactProveEqual", spec := "fnExactProveEqual", apart := false }
def FnExactProveEqualSaid : Prop := fnExactProveEqualRow.holds Try.pinned (OpenSpec.ofChange fnExactProveEqualSpec)

/-- ITS FALSE NEIGHBOUR: 'it returns false'. Refute it at one input. -/
def fnExactProveEqualWrong : ChangeSpec := { name := "fnExactProveEqual", fn := fun _ => fun
  | [d1, d2, d3, d4] => { results := [.lit (.bool false)], args := [d1, d2, d3, d4] }
  | _ => none }
def FnExactProveEqualWrongFalsely : Prop := fnExactProveEqualRow.holds Try.pinned (OpenSpec.ofChange fnExactProveEqualWrong)

/-- 'laws.FnExactVerifyEqual': WHATEVER THE INPUT: true; the input reads as it did. -/
def fnExactVerifyEqualSpec : ChangeSpec := { name := "fnExactVerifyEqual", fn := fun _ => fun
  | [d1, d2, d3, d4, d5, d6] => { results := [.lit (.bool true)], args := [d1, d2, d3, d4, d5, d6] }
  | _ => none }
def fnExactVerifyEqualRow : OpenClaim := { program := "ytgeokjhijihpaaa", sum := "aefd8cef77825e076fcf8316c1be5a962f9e3399fed3ba117133425bb4ffcbdd", func := "loop.example/g00581/laws.FnExactVerifyEqual", spec := "fnExactVerifyEqual", apart := false }
def FnExactVerifyEqualSaid : Prop := fnExactVerifyEqualRow.holds Try.pinned (OpenSpec.ofChange fnExactVerifyEqualSpec)

/-- ITS FALSE NEIGHBOUR: 'it returns false'. Refute it at one input. -/
def fnExactVerifyEqualWrong : ChangeSpec := { name := "fnExactVerifyEqual", fn := fun _ => fun
  | [d1, d2, d3, d4, d5, d6] => { results := [.lit (.bool false)], args := [d1, d2, d3, d4, d5, d6] }
  | _ => none }
def FnExactVerifyEqualWrongFalsely : Prop := fnExactVerifyEqualRow.holds Try.pinned (OpenSpec.ofChange fnExactVerifyEqualWrong)

/-- 'laws.FnGroup': WHATEVER THE INPUT: true; the input reads as it did. -/
def fnGroupSpec : ChangeSpec := { name := "fnGroup", fn := fun _ => fun
  | [d] => { results := [.lit (.bool true)], args := [d] }
  | _ => none }
def fnGroupRow : OpenClaim := { program := "ytgeokjhijihpaaa", sum := "aefd8cef77825e076fcf8316c1be5a962f9e3399fed3ba117133425bb4ffcbdd", func := "loop.example/g00581/laws.FnGroup", spec := "fnGroup", apart := false }
def FnGroupSaid : Prop := fnGroupRow.holds Try.pinned (OpenSpec.ofChange fnGroupSpec)

/-- ITS FALSE NEIGHBOUR: 'it returns false'. Refute it at one input. -/
def fnGroupWrong : ChangeSpec := { name := "fnGroup", fn := fun _ => fun
  | [d] => { results := [.lit (.bool false)], args := [d] }
  | _ => none }
def FnGroupWrongFalsely : Prop := fnGroupRow.holds Try.pinned (OpenSpec.ofChange fnGroupWrong)

/-- 'laws.FnEqualityProofs': WHATEVER THE INPUT: true; the input reads as it did. -/
def fnEqualityProofsSpec : ChangeSpec := { name := "fnEqualityProofs", fn := fun _ => fun
  | [d] => { results := [.lit (.bool true)], args := [d] }
  | _ => none }
def fnEqualityProofsRow : OpenClaim := { program := "ytgeokjhijihpaaa", sum := "aefd8cef77825e076fcf8316c1be5a962f9e3399fed3ba117133425bb4ffcbdd", func := "loop.example/g00581/laws.FnEqualityProofs", spec := "fnEqualityProofs", apart := false }
def FnEqualityProofsSaid : Prop := fnEqualityProofsRow.holds Try.pinned (OpenSpec.ofChange fnEqualityProofsSpec)

/-- ITS FALSE NEIGHBOUR: 'it returns false'. Refute it at one input. -/
def fnEqualityProofsWrong : ChangeSpec := { name := "fnEqualityProofs", fn := fun _ => fun
  | [d] => { results := [.lit (.bool false)], args := [d] }
  | _ => none }
def FnEqualityProofsWrongFalsely : Prop := fnEqualityProofsRow.holds Try.pinned (OpenSpec.ofChange fnEqualityProofsWrong)

/-- 'laws.FnBlinding': WHATEVER THE INPUT: true; the input reads as it did. -/
def fnBlindingSpec : ChangeSpec := { name := "fnBlinding", fn := fun _ => fun
  | [d] => { results := [.lit (.bool true)], args := [d] }
  | _ => none }
def fnBlindingRow : OpenClaim := { program := "ytgeokjhijihpaaa", sum := "aefd8cef77825e076fcf8316c1be5a962f9e3399fed3ba117133425bb4ffcbdd", func := "loop.example/g00581/laws.FnBlinding", spec := "fnBlinding", apart := false }
def FnBlindingSaid : Prop := fnBlindingRow.holds Try.pinned (OpenSpec.ofChange fnBlindingSpec)

/-- ITS FALSE NEIGHBOUR: 'it returns false'. Refute it at one input. -/
def fnBlindingWrong : ChangeSpec := { name := "fnBlinding", fn := fun _ => fun
  | [d] => { results := [.lit (.bool false)], args := [d] }
  | _ => none }
def FnBlindingWrongFalsely : Prop := fnBlindingRow.holds Try.pinned (OpenSpec.ofChange fnBlindingWrong)

/-- 'laws.FnExactEvaluateShare': WHATEVER THE INPUT: true; the input reads as it did. -/
def fnExactEvaluateShareSpec : ChangeSpec := { name := "fnExactEvaluateShare", fn := fun _ => fun
  | [d1, d2] => { results := [.lit (.bool true)], args := [d1, d2] }
  | _ => none }
def fnExactEvaluateShareRow : OpenClaim := { program := "ytgeokjhijihpaaa", sum := "aefd8cef77825e076fcf8316c1be5a962f9e3399fed3ba117133425bb4ffcbdd", func := "loop.example/g00581/laws.FnExactEvaluateShare", spec := "fnExactEvaluateShare", apart := false }
def FnExactEvaluateShareSaid : Prop := fnExactEvaluateShareRow.holds Try.pinned (OpenSpec.ofChange fnExactEvaluateShareSpec)

/-- ITS FALSE NEIGHBOUR: 'it returns false'. Refute it at one input. -/
def fnExactEvaluateShareWrong : ChangeSpec := { name := "fnExactEvaluateShare", fn := fun _ => fun
  | [d1, d2] => { results := [.lit (.bool false)], args := [d1, d2] }
  | _ => none }
def FnExactEvaluateShareWrongFalsely : Prop := fnExactEvaluateShareRow.holds Try.pinned (OpenSpec.ofChange fnExactEvaluateShareWrong)

/- THE SECOND FORM. 'bulk': how many values and letters a reading holds, each counted each time it is reached (what is shared counts as often as it is met; a slice's spare places count too). A statement '..UptoSaid' is the law's where the arguments, and the package variables that the reading takes, are together of bulk at most 1048576: NARROWER than '..Said'. Prove '..Said' where nothing that the law and all that it calls make is longer than what came in: it says more and counts as full. Else prove '..UptoSaid'. A law counts once. -/
mutual
def uptoBulk {H : Type} : DataW H → Nat
  | .lit (.string bytes) => bytes.length + 1
  | .lit _ => 1
  | .nil => 1
  | .ptr d => uptoBulk d + 1
  | .slice elems spare => uptoBulkAll elems + uptoBulkAll spare + 1
  | .agg parts => uptoBulkAll parts + 1
  | .iface _ d => uptoBulk d + 1
  | .map entries => uptoBulkEntries entries + 1
  | .held _ => 1
def uptoBulkAll {H : Type} : List (DataW H) → Nat
  | [] => 0
  | d :: r => uptoBulk d + uptoBulkAll r
def uptoBulkEntries {H : Type} : List (Lit × DataW H) → Nat
  | [] => 0
  | x :: r => uptoBulkEntry x + uptoBulkEntries r
def uptoBulkEntry {H : Type} : Lit × DataW H → Nat
  | (.string bytes, d) => bytes.length + uptoBulk d + 1
  | (_, d) => uptoBulk d + 1
 end
def uptoSmall : (H : Type) → List (DataW H) → Bool := fun _ ds => decide (uptoBulkAll ds ≤ 1048576)
def OpenSpec.upto (s : _root_.Go.ChangeSpec) : _root_.Go.OpenSpec := { _root_.Go.OpenSpec.ofChange s with cond := some uptoSmall }

/-- 'laws.FnExactIsGroupElement', WHERE WHAT IT READS IS OF BULK AT MOST 1048576: true; the input reads as it did. -/
def fnExactIsGroupElementUptoRow : OpenClaim := { program := "ytgeokjhijihpaaa", sum := "aefd8cef77825e076fcf8316c1be5a962f9e3399fed3ba117133425bb4ffcbdd", func := "loop.example/g00581/laws.FnExactIsGroupElement", spec := "fnExactIsGroupElement", apart := false, narrowed := true }
def FnExactIsGroupElementUptoSaid : Prop := fnExactIsGroupElementUptoRow.holds Try.pinned (OpenSpec.upto fnExactIsGroupElementSpec)

/-- 'laws.FnExactMulGroup', WHERE WHAT IT READS IS OF BULK AT MOST 1048576: true; the input reads as it did. -/
def fnExactMulGroupUptoRow : OpenClaim := { program := "ytgeokjhijihpaaa", sum := "aefd8cef77825e076fcf8316c1be5a962f9e3399fed3ba117133425bb4ffcbdd", func := "loop.example/g00581/laws.FnExactMulGroup", spec := "fnExactMulGroup", apart := false, narrowed := true }
def FnExactMulGroupUptoSaid : Prop := fnExactMulGroupUptoRow.holds Try.pinned (OpenSpec.upto fnExactMulGroupSpec)

/-- 'laws.FnExactPowGroup', WHERE WHAT IT READS IS OF BULK AT MOST 1048576: true; the input reads as it did. -/
def fnExactPowGroupUptoRow : OpenClaim := { program := "ytgeokjhijihpaaa", sum := "aefd8cef77825e076fcf8316c1be5a962f9e3399fed3ba117133425bb4ffcbdd", func := "loop.example/g00581/laws.FnExactPowGroup", spec := "fnExactPowGroup", apart := false, narrowed := true }
def FnExactPowGroupUptoSaid : Prop := fnExactPowGroupUptoRow.holds Try.pinned (OpenSpec.upto fnExactPowGroupSpec)

/-- 'laws.FnExactInverseExponent', WHERE WHAT IT READS IS OF BULK AT MOST 1048576: true; the input reads as it did. -/
def fnExactInverseExponentUptoRow : OpenClaim := { program := "ytgeokjhijihpaaa", sum := "aefd8cef77825e076fcf8316c1be5a962f9e3399fed3ba117133425bb4ffcbdd", func := "loop.example/g00581/laws.FnExactInverseExponent", spec := "fnExactInverseExponent", apart := false, narrowed := true }
def FnExactInverseExponentUptoSaid : Prop := fnExactInverseExponentUptoRow.holds Try.pinned (OpenSpec.upto fnExactInverseExponentSpec)

/-- 'laws.FnExactDiscreteLog', WHERE WHAT IT READS IS OF BULK AT MOST 1048576: true; the input reads as it did. -/
def fnExactDiscreteLogUptoRow : OpenClaim := { program := "ytgeokjhijihpaaa", sum := "aefd8cef77825e076fcf8316c1be5a962f9e3399fed3ba117133425bb4ffcbdd", func := "loop.example/g00581/laws.FnExactDiscreteLog", spec := "fnExactDiscreteLog", apart := false, narrowed := true }
def FnExactDiscreteLogUptoSaid : Prop := fnExactDiscreteLogUptoRow.holds Try.pinned (OpenSpec.upto fnExactDiscreteLogSpec)

/-- 'laws.FnExactHashToGroup', WHERE WHAT IT READS IS OF BULK AT MOST 1048576: true; the input reads as it did. -/
def fnExactHashToGroupUptoRow : OpenClaim := { program := "ytgeokjhijihpaaa", sum := "aefd8cef77825e076fcf8316c1be5a962f9e3399fed3ba117133425bb4ffcbdd", func := "loop.example/g00581/laws.FnExactHashToGroup", spec := "fnExactHashToGroup", apart := false, narrowed := true }
def FnExactHashToGroupUptoSaid : Prop := fnExactHashToGroupUptoRow.holds Try.pinned (OpenSpec.upto fnExactHashToGroupSpec)

/-- 'laws.FnExactProveEqual', WHERE WHAT IT READS IS OF BULK AT MOST 1048576: true; the input reads as it did. -/
def fnExactProveEqualUptoRow : OpenClaim := { program := "ytgeokjhijihpaaa", sum := "aefd8cef77825e076fcf8316c1be5a962f9e3399fed3ba117133425bb4ffcbdd", func := "loop.example/g00581/laws.FnExactProveEqual", spec := "fnExactProveEqual", apart := false, narrowed := true }
def FnExactProveEqualUptoSaid : Prop := fnExactProveEqualUptoRow.holds Try.pinned (OpenSpec.upto fnExactProveEqualSpec)

/-- 'laws.FnExactVerifyEqual', WHERE WHAT IT READS IS OF BULK AT MOST 1048576: true; the input reads as it did. -/
def fnExactVerifyEqualUptoRow : OpenClaim := { program := "ytgeokjhijihpaaa", sum := "aefd8cef77825e076fcf8316c1be5a962f9e3399fed3ba117133425bb4ffcbdd", func := "loop.example/g00581/laws.FnExactVerifyEqual", spec := "fnExactVerifyEqual", apart := false, narrowed := true }
def FnExactVerifyEqualUptoSaid : Prop := fnExactVerifyEqualUptoRow.holds Try.pinned (OpenSpec.upto fnExactVerifyEqualSpec)

/-- 'laws.FnGroup', WHERE WHAT IT READS IS OF BULK AT MOST 1048576: true; the input reads as it did. -/
def fnGroupUptoRow : OpenClaim := { program := "ytgeokjhijihpaaa", sum := "aefd8cef77825e076fcf8316c1be5a962f9e3399fed3ba117133425bb4ffcbdd", func := "loop.example/g00581/laws.FnGroup", spec := "fnGroup", apart := false, narrowed := true }
def FnGroupUptoSaid : Prop := fnGroupUptoRow.holds Try.pinned (OpenSpec.upto fnGroupSpec)

/-- 'laws.FnEqualityProofs', WHERE WHAT IT READS IS OF BULK AT MOST 1048576: true; the input reads as it did. -/
def fnEqualityProofsUptoRow : OpenClaim := { program := "ytgeokjhijihpaaa", sum := "aefd8cef77825e076fcf8316c1be5a962f9e3399fed3ba117133425bb4ffcbdd", func := "loop.example/g00581/laws.FnEqualityProofs", spec := "fnEqualityProofs", apart := false, narrowed := true }
def FnEqualityProofsUptoSaid : Prop := fnEqualityProofsUptoRow.holds Try.pinned (OpenSpec.upto fnEqualityProofsSpec)

/-- 'laws.FnBlinding', WHERE WHAT IT READS IS OF BULK AT MOST 1048576: true; the input reads as it did. -/
def fnBlindingUptoRow : OpenClaim := { program := "ytgeokjhijihpaaa", sum := "aefd8cef77825e076fcf8316c1be5a962f9e3399fed3ba117133425bb4ffcbdd", func := "loop.example/g00581/laws.FnBlinding", spec := "fnBlinding", apart := false, narrowed := true }
def FnBlindingUptoSaid : Prop := fnBlindingUptoRow.holds Try.pinned (OpenSpec.upto fnBlindingSpec)

/-- 'laws.FnExactEvaluateShare', WHERE WHAT IT READS IS OF BULK AT MOST 1048576: true; the input reads as it did. -/
def fnExactEvaluateShareUptoRow : OpenClaim := { program := "ytgeokjhijihpaaa", sum := "aefd8cef77825e076fcf8316c1be5a962f9e3399fed3ba117133425bb4ffcbdd", func := "loop.example/g00581/laws.FnExactEvaluateShare", spec := "fnExactEvaluateShare", apart := false, narrowed := true }
def FnExactEvaluateShareUptoSaid : Prop := fnExactEvaluateShareUptoRow.holds Try.pinned (OpenSpec.upto fnExactEvaluateShareSpec)

end Rows
end Go.Proofs.Ytgeokjhijihpaaa
