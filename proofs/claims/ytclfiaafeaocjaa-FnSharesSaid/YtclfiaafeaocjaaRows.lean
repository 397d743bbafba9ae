/-
  No cell of these rows narrows 'for every input' (looked for: loops, veiled, ifaces, maps, wideKeys, modest, calm, conditions, laid).
  DERIVED. THE GIVEN ROWS OF THIS SEAT. 8 by the template 'for every input the law returns true; each argument reads behind the call as it read before'; 0 by the template 'total and deterministic' (their statements: YtclfiaafeaocjaaTotals.lean).
  GIVEN WITH THE SEED: the statements are not yours to turn. If you find one false, say at which input.
  Laid BY PROGRAM, IN A SANDBOX (cutbox-rows.mjs): the forced cells as the released guide's own fill.sh prints them over the translation 7fbb35770c977e9c… (all of the seat's roots in one cut). By AI agents, Wed Nov 11 2026. No macro, syntax, notation, axiom, sorry.
-/
import Derived.Test.YtclfiaafeaocjaaChecked
import GoSem.Claim
import GoSem.ClaimJoined
import GoSem.ClaimMapViews
import Derived.JoinedTies
import Derived.KernelRfl
namespace Go.Proofs.Ytclfiaafeaocjaa
/- THE CELL 'sum', in the pinned program and in every row, IS THE sha256 OF THE DUMP (.gsa) THAT YtclfiaafeaocjaaProg.lean LOADS. Nothing in Lean hashes anything: it is a label: what it is worth is what the hold of that sum in a sandbox is worth. -/
noncomputable def Try.pinned : Pinned := { name := "ytclfiaafeaocjaa", sum := "7fbb35770c977e9cc1c1f6d92c832708ceefd705a8ccb45adda4a28bbd3f8ef8", checked := Try.checked }
namespace Rows
def none {H : Type} : Left H := { results := [], args := [] }

/-- 'laws.FnExactAreShares': WHATEVER THE INPUT: true; the input reads as it did. -/
def fnExactAreSharesSpec : ChangeSpec := { name := "fnExactAreShares", fn := fun _ => fun
  | [d] => { results := [.lit (.bool true)], args := [d] }
  | _ => none }
def fnExactAreSharesRow : OpenClaim := { program := "ytclfiaafeaocjaa", sum := "7fbb35770c977e9cc1c1f6d92c832708ceefd705a8ccb45adda4a28bbd3f8ef8", func := "loop.example/g00581/laws.FnExactAreShares", spec := "fnExactAreShares", apart := false }
def FnExactAreSharesSaid : Prop := fnExactAreSharesRow.holds Try.pinned (OpenSpec.ofChange fnExactAreSharesSpec)

/-- ITS FALSE NEIGHBOUR: 'it returns false'. Refute it at one input. -/
def fnExactAreSharesWrong : ChangeSpec := { name := "fnExactAreShares", fn := fun _ => fun
  | [d] => { results := [.lit (.bool false)], args := [d] }
  | _ => none }
def FnExactAreSharesWrongFalsely : Prop := fnExactAreSharesRow.holds Try.pinned (OpenSpec.ofChange fnExactAreSharesWrong)

/-- 'laws.FnExactLagrangeWeight': WHATEVER THE INPUT: true; the input reads as it did. -/
def fnExactLagrangeWeightSpec : ChangeSpec := { name := "fnExactLagrangeWeight", fn := fun _ => fun
  | [d1, d2, d3] => { results := [.lit (.bool true)], args := [d1, d2, d3] }
  | _ => none }
def fnExactLagrangeWeightRow : OpenClaim := { program := "ytclfiaafeaocjaa", sum := "7fbb35770c977e9cc1c1f6d92c832708ceefd705a8ccb45adda4a28bbd3f8ef8", func := "loop.example/g00581/laws.FnExactLagrangeWeight", spec := "fnExactLagrangeWeight", apart := false }
def FnExactLagrangeWeightSaid : Prop := fnExactLagrangeWeightRow.holds Try.pinned (OpenSpec.ofChange fnExactLagrangeWeightSpec)

/-- ITS FALSE NEIGHBOUR: 'it returns false'. Refute it at one input. -/
def fnExactLagrangeWeightWrong : ChangeSpec := { name := "fnExactLagrangeWeight", fn := fun _ => fun
  | [d1, d2, d3] => { results := [.lit (.bool false)], args := [d1, d2, d3] }
  | _ => none }
def FnExactLagrangeWeightWrongFalsely : Prop := fnExactLagrangeWeightRow.holds Try.pinned (OpenSpec.ofChange fnExactLagrangeWeightWrong)

/-- 'laws.FnExactShareSecret': WHATEVER THE INPUT: true; the input reads as it did. -/
def fnExactShareSecretSpec : ChangeSpec := { name := "fnExactShareSecret", fn := fun _ => fun
  | [d1, d2, d3] => { results := [.lit (.bool true)], args := [d1, d2, d3] }
  | _ => none }
def fnExactShareSecretRow : OpenClaim := { program := "ytclfiaafeaocjaa", sum := "7fbb35770c977e9cc1c1f6d92c832708ceefd705a8ccb45adda4a28bbd3f8ef8", func := "loop.example/g00581/laws.FnExactShareSecret", spec := "fnExactShareSecret", apart := false }
def FnExactShareSecretSaid : Prop := fnExactShareSecretRow.holds Try.pinned (OpenSpec.ofChange fnExactShareSecretSpec)

/-- ITS FALSE NEIGHBOUR: 'it returns false'. Refute it at one input. -/
def fnExactShareSecretWrong : ChangeSpec := { name := "fnExactShareSecret", fn := fun _ => fun
  | [d1, d2, d3] => { results := [.lit (.bool false)], args := [d1, d2, d3] }
  | _ => none }
def FnExactShareSecretWrongFalsely : Prop := fnExactShareSecretRow.holds Try.pinned (OpenSpec.ofChange fnExactShareSecretWrong)

/-- 'laws.FnExactRefreshShares': WHATEVER THE INPUT: true; the input reads as it did. -/
def fnExactRefreshSharesSpec : ChangeSpec := { name := "fnExactRefreshShares", fn := fun _ => fun
  | [d1, d2] => { results := [.lit (.bool true)], args := [d1, d2] }
  | _ => none }
def fnExactRefreshSharesRow : OpenClaim := { program := "ytclfiaafeaocjaa", sum := "7fbb35770c977e9cc1c1f6d92c832708ceefd705a8ccb45adda4a28bbd3f8ef8", func := "loop.example/g00581/laws.FnExactRefreshShares", spec := "fnExactRefreshShares", apart := false }
def FnExactRefreshSharesSaid : Prop := fnExactRefreshSharesRow.holds Try.pinned (OpenSpec.ofChange fnExactRefreshSharesSpec)

/-- ITS FALSE NEIGHBOUR: 'it returns false'. Refute it at one input. -/
def fnExactRefreshSharesWrong : ChangeSpec := { name := "fnExactRefreshShares", fn := fun _ => fun
  | [d1, d2] => { results := [.lit (.bool false)], args := [d1, d2] }
  | _ => none }
def FnExactRefreshSharesWrongFalsely : Prop := fnExactRefreshSharesRow.holds Try.pinned (OpenSpec.ofChange fnExactRefreshSharesWrong)

/-- 'laws.FnExactInterpolate': WHATEVER THE INPUT: true; the input reads as it did. -/
def fnExactInterpolateSpec : ChangeSpec := { name := "fnExactInterpolate", fn := fun _ => fun
  | [d1, d2] => { results := [.lit (.bool true)], args := [d1, d2] }
  | _ => none }
def fnExactInterpolateRow : OpenClaim := { program := "ytclfiaafeaocjaa", sum := "7fbb35770c977e9cc1c1f6d92c832708ceefd705a8ccb45adda4a28bbd3f8ef8", func := "loop.example/g00581/laws.FnExactInterpolate", spec := "fnExactInterpolate", apart := false }
def FnExactInterpolateSaid : Prop := fnExactInterpolateRow.holds Try.pinned (OpenSpec.ofChange fnExactInterpolateSpec)

/-- ITS FALSE NEIGHBOUR: 'it returns false'. Refute it at one input. -/
def fnExactInterpolateWrong : ChangeSpec := { name := "fnExactInterpolate", fn := fun _ => fun
  | [d1, d2] => { results := [.lit (.bool false)], args := [d1, d2] }
  | _ => none }
def FnExactInterpolateWrongFalsely : Prop := fnExactInterpolateRow.holds Try.pinned (OpenSpec.ofChange fnExactInterpolateWrong)

/-- 'laws.FnExactMissingShare': WHATEVER THE INPUT: true; the input reads as it did. -/
def fnExactMissingShareSpec : ChangeSpec := { name := "fnExactMissingShare", fn := fun _ => fun
  | [d1, d2, d3] => { results := [.lit (.bool true)], args := [d1, d2, d3] }
  | _ => none }
def fnExactMissingShareRow : OpenClaim := { program := "ytclfiaafeaocjaa", sum := "7fbb35770c977e9cc1c1f6d92c832708ceefd705a8ccb45adda4a28bbd3f8ef8", func := "loop.example/g00581/laws.FnExactMissingShare", spec := "fnExactMissingShare", apart := false }
def FnExactMissingShareSaid : Prop := fnExactMissingShareRow.holds Try.pinned (OpenSpec.ofChange fnExactMissingShareSpec)

/-- ITS FALSE NEIGHBOUR: 'it returns false'. Refute it at one input. -/
def fnExactMissingShareWrong : ChangeSpec := { name := "fnExactMissingShare", fn := fun _ => fun
  | [d1, d2, d3] => { results := [.lit (.bool false)], args := [d1, d2, d3] }
  | _ => none }
def FnExactMissingShareWrongFalsely : Prop := fnExactMissingShareRow.holds Try.pinned (OpenSpec.ofChange fnExactMissingShareWrong)

/-- 'laws.FnShares': WHATEVER THE INPUT: true; the input reads as it did. -/
def fnSharesSpec : ChangeSpec := { name := "fnShares", fn := fun _ => fun
  | [d] => { results := [.lit (.bool true)], args := [d] }
  | _ => none }
def fnSharesRow : OpenClaim := { program := "ytclfiaafeaocjaa", sum := "7fbb35770c977e9cc1c1f6d92c832708ceefd705a8ccb45adda4a28bbd3f8ef8", func := "loop.example/g00581/laws.FnShares", spec := "fnShares", apart := false }
def FnSharesSaid : Prop := fnSharesRow.holds Try.pinned (OpenSpec.ofChange fnSharesSpec)

/-- ITS FALSE NEIGHBOUR: 'it returns false'. Refute it at one input. -/
def fnSharesWrong : ChangeSpec := { name := "fnShares", fn := fun _ => fun
  | [d] => { results := [.lit (.bool false)], args := [d] }
  | _ => none }
def FnSharesWrongFalsely : Prop := fnSharesRow.holds Try.pinned (OpenSpec.ofChange fnSharesWrong)

/-- 'laws.FnFewShares': WHATEVER THE INPUT: true; the input reads as it did. -/
def fnFewSharesSpec : ChangeSpec := { name := "fnFewShares", fn := fun _ => fun
  | [d] => { results := [.lit (.bool true)], args := [d] }
  | _ => none }
def fnFewSharesRow : OpenClaim := { program := "ytclfiaafeaocjaa", sum := "7fbb35770c977e9cc1c1f6d92c832708ceefd705a8ccb45adda4a28bbd3f8ef8", func := "loop.example/g00581/laws.FnFewShares", spec := "fnFewShares", apart := false }
def FnFewSharesSaid : Prop := fnFewSharesRow.holds Try.pinned (OpenSpec.ofChange fnFewSharesSpec)

/-- ITS FALSE NEIGHBOUR: 'it returns false'. Refute it at one input. -/
def fnFewSharesWrong : ChangeSpec := { name := "fnFewShares", fn := fun _ => fun
  | [d] => { results := [.lit (.bool false)], args := [d] }
  | _ => none }
def FnFewSharesWrongFalsely : Prop := fnFewSharesRow.holds Try.pinned (OpenSpec.ofChange fnFewSharesWrong)

/- THE SECOND FORM. 'bulk': how many values and letters a reading holds, each counted each time it is reached (what is shared counts as often as it is met; a slice's spare places count too). A statement '..UptoSaid' is the law's where the arguments, and the package variables that the reading takes, are together of bulk at most 1048576: NARROWER than '..Said'. Prove '..Said' where nothing that the law and all that it calls make is longer than what came in: it says more and counts as full. Else prove '..UptoSaid'. A law counts once. -/
mutual
def uptoBulk {H : Type} : DataW H → Nat
  | .lit (.string bytes) => bytes.length + 1
  | .lit _ => 1
  | .nil => 1
  | .ptr d => uptoBulk d + 1
  | .slice elems spare => uptoBulkAll elems + uptoBulkAll spare + 1
  | .agg parts => uptoBulkAll parts + 1
  | .iface _ d => uptoBulk d + 1
  | .map entries => uptoBulkEntries entries + 1
  | .held _ => 1
def uptoBulkAll {H : Type} : List (DataW H) → Nat
  | [] => 0
  | d :: r => uptoBulk d + uptoBulkAll r
def uptoBulkEntries {H : Type} : List (Lit × DataW H) → Nat
  | [] => 0
  | x :: r => uptoBulkEntry x + uptoBulkEntries r
def uptoBulkEntry {H : Type} : Lit × DataW H → Nat
  | (.string bytes, d) => bytes.length + uptoBulk d + 1
  | (_, d) => uptoBulk d + 1
 end
def uptoSmall : (H : Type) → List (DataW H) → Bool := fun _ ds => decide (uptoBulkAll ds ≤ 1048576)
def OpenSpec.upto (s : _root_.Go.ChangeSpec) : _root_.Go.OpenSpec := { _root_.Go.OpenSpec.ofChange s with cond := some uptoSmall }

/-- 'laws.FnExactAreShares', WHERE WHAT IT READS IS OF BULK AT MOST 1048576: true; the input reads as it did. -/
def fnExactAreSharesUptoRow : OpenClaim := { program := "ytclfiaafeaocjaa", sum := "7fbb35770c977e9cc1c1f6d92c832708ceefd705a8ccb45adda4a28bbd3f8ef8", func := "loop.example/g00581/laws.FnExactAreShares", spec := "fnExactAreShares", apart := false, narrowed := true }
def FnExactAreSharesUptoSaid : Prop := fnExactAreSharesUptoRow.holds Try.pinned (OpenSpec.upto fnExactAreSharesSpec)

/-- 'laws.FnExactLagrangeWeight', WHERE WHAT IT READS IS OF BULK AT MOST 1048576: true; the input reads as it did. -/
def fnExactLagrangeWeightUptoRow : OpenClaim := { program := "ytclfiaafeaocjaa", sum := "7fbb35770c977e9cc1c1f6d92c832708ceefd705a8ccb45adda4a28bbd3f8ef8", func := "loop.example/g00581/laws.FnExactLagrangeWeight", spec := "fnExactLagrangeWeight", apart := false, narrowed := true }
def FnExactLagrangeWeightUptoSaid : Prop := fnExactLagrangeWeightUptoRow.holds Try.pinned (OpenSpec.upto fnExactLagrangeWeightSpec)

/-- 'laws.FnExactShareSecret', WHERE WHAT IT READS IS OF BULK AT MOST 1048576: true; the input reads as it did. -/
def fnExactShareSecretUptoRow : OpenClaim := { program := "ytclfiaafeaocjaa", sum := "7fbb35770c977e9cc1c1f6d92c832708ceefd705a8ccb45adda4a28bbd3f8ef8", func := "loop.example/g00581/laws.FnExactShareSecret", spec := "fnExactShareSecret", apart := false, narrowed := true }
def FnExactShareSecretUptoSaid : Prop := fnExactShareSecretUptoRow.holds Try.pinned (OpenSpec.upto fnExactShareSecretSpec)

/-- 'laws.FnExactRefreshShares', WHERE WHAT IT READS IS OF BULK AT MOST 1048576: true; the input reads as it did. -/
def fnExactRefreshSharesUptoRow : OpenClaim := { program := "ytclfiaafeaocjaa", sum := "7fbb35770c977e9cc1c1f6d92c832708ceefd705a8ccb45adda4a28bbd3f8ef8", func := "loop.example/g00581/laws.FnExactRefreshShares", spec := "fnExactRefreshShares", apart := false, narrowed := true }
def FnExactRefreshSharesUptoSaid : Prop := fnExactRefreshSharesUptoRow.holds Try.pinned (OpenSpec.upto fnExactRefreshSharesSpec)

/-- 'laws.FnExactInterpolate', WHERE WHAT IT READS IS OF BULK AT MOST 1048576: true; the input reads as it did. -/
def fnExactInterpolateUptoRow : OpenClaim := { program := "ytclfiaafeaocjaa", sum := "7fbb35770c977e9cc1c1f6d92c832708ceefd705a8ccb45adda4a28bbd3f8ef8", func := "loop.example/g00581/laws.FnExactInterpolate", spec := "fnExactInterpolate", apart := false, narrowed := true }
def FnExactInterpolateUptoSaid : Prop := fnExactInterpolateUptoRow.holds Try.pinned (OpenSpec.upto fnExactInterpolateSpec)

/-- 'laws.FnExactMissingShare', WHERE WHAT IT READS IS OF BULK AT MOST 1048576: true; the input reads as it did. -/
def fnExactMissingShareUptoRow : OpenClaim := { program := "ytclfiaafeaocjaa", sum := "7fbb35770c977e9cc1c1f6d92c832708ceefd705a8ccb45adda4a28bbd3f8ef8", func := "loop.example/g00581/laws.FnExactMissingShare", spec := "fnExactMissingShare", apart := false, narrowed := true }
def FnExactMissingShareUptoSaid : Prop := fnExactMissingShareUptoRow.holds Try.pinned (OpenSpec.upto fnExactMissingShareSpec)

/-- 'laws.FnShares', WHERE WHAT IT READS IS OF BULK AT MOST 1048576: true; the input reads as it did. -/
def fnSharesUptoRow : OpenClaim := { program := "ytclfiaafeaocjaa", sum := "7fbb35770c977e9cc1c1f6d92c832708ceefd705a8ccb45adda4a28bbd3f8ef8", func := "loop.example/g00581/laws.FnShares", spec := "fnShares", apart := false, narrowed := true }
def FnSharesUptoSaid : Prop := fnSharesUptoRow.holds Try.pinned (OpenSpec.upto fnSharesSpec)

/-- 'laws.FnFewShares', WHERE WHAT IT READS IS OF BULK AT MOST 1048576: true; the input reads as it did. -/
def fnFewSharesUptoRow : OpenClaim := { program := "ytclfiaafeaocjaa", sum := "7fbb35770c977e9cc1c1f6d92c832708ceefd705a8ccb45adda4a28bbd3f8ef8", func := "loop.example/g00581/laws.FnFewShares", spec := "fnFewShares", apart := false, narrowed := true }
def FnFewSharesUptoSaid : Prop := fnFewSharesUptoRow.holds Try.pinned (OpenSpec.upto fnFewSharesSpec)

end Rows
end Go.Proofs.Ytclfiaafeaocjaa
