/-
  No cell of these rows narrows 'for every input' (looked for: loops, veiled, ifaces, maps, wideKeys, modest, calm, conditions, laid).
  DERIVED. THE GIVEN ROWS OF THIS SEAT. 12 by the template 'for every input the law returns true; each argument reads behind the call as it read before'; 0 by the template 'total and deterministic' (their statements: YtgaodlegjpbcaaaTotals.lean).
  GIVEN WITH THE SEED: the statements are not yours to turn. If you find one false, say at which input.
  Laid BY PROGRAM, IN A SANDBOX (cutbox-rows.mjs): the forced cells as the released guide's own fill.sh prints them over the translation c8e367621a0bd5a4… (all of the seat's roots in one cut). By AI agents, Wed Nov 11 2026. No macro, syntax, notation, axiom, sorry.
-/
import Derived.Test.YtgaodlegjpbcaaaChecked
import GoSem.Claim
import GoSem.ClaimJoined
import GoSem.ClaimMapViews
import Derived.JoinedTies
import Derived.KernelRfl
namespace Go.Proofs.Ytgaodlegjpbcaaa
/- THE CELL 'sum', in the pinned program and in every row, IS THE sha256 OF THE DUMP (.gsa) THAT YtgaodlegjpbcaaaProg.lean LOADS. Nothing in Lean hashes anything: it is a label: what it is worth is what the hold of that sum in a sandbox is worth. -/
noncomputable def Try.pinned : Pinned := { name := "ytgaodlegjpbcaaa", sum := "c8e367621a0bd5a4141b60ff9e21f32900c763b9abb183074df60be619fa05a4", checked := Try.checked }
namespace Rows
def none {H : Type} : Left H := { results := [], args := [] }

/-- 'laws.FnExactHash': WHATEVER THE INPUT: true; the input reads as it did. -/
def fnExactHashSpec : ChangeSpec := { name := "fnExactHash", fn := fun _ => fun
  | [d] => { results := [.lit (.bool true)], args := [d] }
  | _ => none }
def fnExactHashRow : OpenClaim := { program := "ytgaodlegjpbcaaa", sum := "c8e367621a0bd5a4141b60ff9e21f32900c763b9abb183074df60be619fa05a4", func := "loop.example/g00581/laws.FnExactHash", spec := "fnExactHash", apart := false }
def FnExactHashSaid : Prop := fnExactHashRow.holds Try.pinned (OpenSpec.ofChange fnExactHashSpec)

/-- ITS FALSE NEIGHBOUR: 'it returns false'. Refute it at one input. -/
def fnExactHashWrong : ChangeSpec := { name := "fnExactHash", fn := fun _ => fun
  | [d] => { results := [.lit (.bool false)], args := [d] }
  | _ => none }
def FnExactHashWrongFalsely : Prop := fnExactHashRow.holds Try.pinned (OpenSpec.ofChange fnExactHashWrong)

/-- 'laws.FnExactKeyedHash': WHATEVER THE INPUT: true; the input reads as it did. -/
def fnExactKeyedHashSpec : ChangeSpec := { name := "fnExactKeyedHash", fn := fun _ => fun
  | [d1, d2] => { results := [.lit (.bool true)], args := [d1, d2] }
  | _ => none }
def fnExactKeyedHashRow : OpenClaim := { program := "ytgaodlegjpbcaaa", sum := "c8e367621a0bd5a4141b60ff9e21f32900c763b9abb183074df60be619fa05a4", func := "loop.example/g00581/laws.FnExactKeyedHash", spec := "fnExactKeyedHash", apart := false }
def FnExactKeyedHashSaid : Prop := fnExactKeyedHashRow.holds Try.pinned (OpenSpec.ofChange fnExactKeyedHashSpec)

/-- ITS FALSE NEIGHBOUR: 'it returns false'. Refute it at one input. -/
def fnExactKeyedHashWrong : ChangeSpec := { name := "fnExactKeyedHash", fn := fun _ => fun
  | [d1, d2] => { results := [.lit (.bool false)], args := [d1, d2] }
  | _ => none }
def FnExactKeyedHashWrongFalsely : Prop := fnExactKeyedHashRow.holds Try.pinned (OpenSpec.ofChange fnExactKeyedHashWrong)

/-- 'laws.FnExactDeriveFromString': WHATEVER THE INPUT: true; the input reads as it did. -/
def fnExactDeriveFromStringSpec : ChangeSpec := { name := "fnExactDeriveFromString", fn := fun _ => fun
  | [d1, d2] => { results := [.lit (.bool true)], args := [d1, d2] }
  | _ => none }
def fnExactDeriveFromStringRow : OpenClaim := { program := "ytgaodlegjpbcaaa", sum := "c8e367621a0bd5a4141b60ff9e21f32900c763b9abb183074df60be619fa05a4", func := "loop.example/g00581/laws.FnExactDeriveFromString", spec := "fnExactDeriveFromString", apart := false }
def FnExactDeriveFromStringSaid : Prop := fnExactDeriveFromStringRow.holds Try.pinned (OpenSpec.ofChange fnExactDeriveFromStringSpec)

/-- ITS FALSE NEIGHBOUR: 'it returns false'. Refute it at one input. -/
def fnExactDeriveFromStringWrong : ChangeSpec := { name := "fnExactDeriveFromString", fn := fun _ => fun
  | [d1, d2] => { results := [.lit (.bool false)], args := [d1, d2] }
  | _ => none }
def FnExactDeriveFromStringWrongFalsely : Prop := fnExactDeriveFromStringRow.holds Try.pinned (OpenSpec.ofChange fnExactDeriveFromStringWrong)

/-- 'laws.FnExactBytesToInts': WHATEVER THE INPUT: true; the input reads as it did. -/
def fnExactBytesToIntsSpec : ChangeSpec := { name := "fnExactBytesToInts", fn := fun _ => fun
  | [d] => { results := [.lit (.bool true)], args := [d] }
  | _ => none }
def fnExactBytesToIntsRow : OpenClaim := { program := "ytgaodlegjpbcaaa", sum := "c8e367621a0bd5a4141b60ff9e21f32900c763b9abb183074df60be619fa05a4", func := "loop.example/g00581/laws.FnExactBytesToInts", spec := "fnExactBytesToInts", apart := false }
def FnExactBytesToIntsSaid : Prop := fnExactBytesToIntsRow.holds Try.pinned (OpenSpec.ofChange fnExactBytesToIntsSpec)

/-- ITS FALSE NEIGHBOUR: 'it returns false'. Refute it at one input. -/
def fnExactBytesToIntsWrong : ChangeSpec := { name := "fnExactBytesToInts", fn := fun _ => fun
  | [d] => { results := [.lit (.bool false)], args := [d] }
  | _ => none }
def FnExactBytesToIntsWrongFalsely : Prop := fnExactBytesToIntsRow.holds Try.pinned (OpenSpec.ofChange fnExactBytesToIntsWrong)

/-- 'laws.FnExactEncrypt': WHATEVER THE INPUT: true; the input reads as it did. -/
def fnExactEncryptSpec : ChangeSpec := { name := "fnExactEncrypt", fn := fun _ => fun
  | [d1, d2] => { results := [.lit (.bool true)], args := [d1, d2] }
  | _ => none }
def fnExactEncryptRow : OpenClaim := { program := "ytgaodlegjpbcaaa", sum := "c8e367621a0bd5a4141b60ff9e21f32900c763b9abb183074df60be619fa05a4", func := "loop.example/g00581/laws.FnExactEncrypt", spec := "fnExactEncrypt", apart := false }
def FnExactEncryptSaid : Prop := fnExactEncryptRow.holds Try.pinned (OpenSpec.ofChange fnExactEncryptSpec)

/-- ITS FALSE NEIGHBOUR: 'it returns false'. Refute it at one input. -/
def fnExactEncryptWrong : ChangeSpec := { name := "fnExactEncrypt", fn := fun _ => fun
  | [d1, d2] => { results := [.lit (.bool false)], args := [d1, d2] }
  | _ => none }
def FnExactEncryptWrongFalsely : Prop := fnExactEncryptRow.holds Try.pinned (OpenSpec.ofChange fnExactEncryptWrong)

/-- 'laws.FnExactDecrypt': WHATEVER THE INPUT: true; the input reads as it did. -/
def fnExactDecryptSpec : ChangeSpec := { name := "fnExactDecrypt", fn := fun _ => fun
  | [d1, d2] => { results := [.lit (.bool true)], args := [d1, d2] }
  | _ => none }
def fnExactDecryptRow : OpenClaim := { program := "ytgaodlegjpbcaaa", sum := "c8e367621a0bd5a4141b60ff9e21f32900c763b9abb183074df60be619fa05a4", func := "loop.example/g00581/laws.FnExactDecrypt", spec := "fnExactDecrypt", apart := false }
def FnExactDecryptSaid : Prop := fnExactDecryptRow.holds Try.pinned (OpenSpec.ofChange fnExactDecryptSpec)

/-- ITS FALSE NEIGHBOUR: 'it returns false'. Refute it at one input. -/
def fnExactDecryptWrong : ChangeSpec := { name := "fnExactDecrypt", fn := fun _ => fun
  | [d1, d2] => { results := [.lit (.bool false)], args := [d1, d2] }
  | _ => none }
def FnExactDecryptWrongFalsely : Prop := fnExactDecryptRow.holds Try.pinned (OpenSpec.ofChange fnExactDecryptWrong)

/-- 'laws.FnCipher': WHATEVER THE INPUT: true; the input reads as it did. -/
def fnCipherSpec : ChangeSpec := { name := "fnCipher", fn := fun _ => fun
  | [d] => { results := [.lit (.bool true)], args := [d] }
  | _ => none }
def fnCipherRow : OpenClaim := { program := "ytgaodlegjpbcaaa", sum := "c8e367621a0bd5a4141b60ff9e21f32900c763b9abb183074df60be619fa05a4", func := "loop.example/g00581/laws.FnCipher", spec := "fnCipher", apart := false }
def FnCipherSaid : Prop := fnCipherRow.holds Try.pinned (OpenSpec.ofChange fnCipherSpec)

/-- ITS FALSE NEIGHBOUR: 'it returns false'. Refute it at one input. -/
def fnCipherWrong : ChangeSpec := { name := "fnCipher", fn := fun _ => fun
  | [d] => { results := [.lit (.bool false)], args := [d] }
  | _ => none }
def FnCipherWrongFalsely : Prop := fnCipherRow.holds Try.pinned (OpenSpec.ofChange fnCipherWrong)

/-- 'laws.FnKeyedHash': WHATEVER THE INPUT: true; the input reads as it did. -/
def fnKeyedHashSpec : ChangeSpec := { name := "fnKeyedHash", fn := fun _ => fun
  | [d] => { results := [.lit (.bool true)], args := [d] }
  | _ => none }
def fnKeyedHashRow : OpenClaim := { program := "ytgaodlegjpbcaaa", sum := "c8e367621a0bd5a4141b60ff9e21f32900c763b9abb183074df60be619fa05a4", func := "loop.example/g00581/laws.FnKeyedHash", spec := "fnKeyedHash", apart := false }
def FnKeyedHashSaid : Prop := fnKeyedHashRow.holds Try.pinned (OpenSpec.ofChange fnKeyedHashSpec)

/-- ITS FALSE NEIGHBOUR: 'it returns false'. Refute it at one input. -/
def fnKeyedHashWrong : ChangeSpec := { name := "fnKeyedHash", fn := fun _ => fun
  | [d] => { results := [.lit (.bool false)], args := [d] }
  | _ => none }
def FnKeyedHashWrongFalsely : Prop := fnKeyedHashRow.holds Try.pinned (OpenSpec.ofChange fnKeyedHashWrong)

/-- 'laws.FnExactPublicKey': WHATEVER THE INPUT: true; the input reads as it did. -/
def fnExactPublicKeySpec : ChangeSpec := { name := "fnExactPublicKey", fn := fun _ => fun
  | [d] => { results := [.lit (.bool true)], args := [d] }
  | _ => none }
def fnExactPublicKeyRow : OpenClaim := { program := "ytgaodlegjpbcaaa", sum := "c8e367621a0bd5a4141b60ff9e21f32900c763b9abb183074df60be619fa05a4", func := "loop.example/g00581/laws.FnExactPublicKey", spec := "fnExactPublicKey", apart := false }
def FnExactPublicKeySaid : Prop := fnExactPublicKeyRow.holds Try.pinned (OpenSpec.ofChange fnExactPublicKeySpec)

/-- ITS FALSE NEIGHBOUR: 'it returns false'. Refute it at one input. -/
def fnExactPublicKeyWrong : ChangeSpec := { name := "fnExactPublicKey", fn := fun _ => fun
  | [d] => { results := [.lit (.bool false)], args := [d] }
  | _ => none }
def FnExactPublicKeyWrongFalsely : Prop := fnExactPublicKeyRow.holds Try.pinned (OpenSpec.ofChange fnExactPublicKeyWrong)

/-- 'laws.FnExactPrivateKey': WHATEVER THE INPUT: true; the input reads as it did. -/
def fnExactPrivateKeySpec : ChangeSpec := { name := "fnExactPrivateKey", fn := fun _ => fun
  | [d] => { results := [.lit (.bool true)], args := [d] }
  | _ => none }
def fnExactPrivateKeyRow : OpenClaim := { program := "ytgaodlegjpbcaaa", sum := "c8e367621a0bd5a4141b60ff9e21f32900c763b9abb183074df60be619fa05a4", func := "loop.example/g00581/laws.FnExactPrivateKey", spec := "fnExactPrivateKey", apart := false }
def FnExactPrivateKeySaid : Prop := fnExactPrivateKeyRow.holds Try.pinned (OpenSpec.ofChange fnExactPrivateKeySpec)

/-- ITS FALSE NEIGHBOUR: 'it returns false'. Refute it at one input. -/
def fnExactPrivateKeyWrong : ChangeSpec := { name := "fnExactPrivateKey", fn := fun _ => fun
  | [d] => { results := [.lit (.bool false)], args := [d] }
  | _ => none }
def FnExactPrivateKeyWrongFalsely : Prop := fnExactPrivateKeyRow.holds Try.pinned (OpenSpec.ofChange fnExactPrivateKeyWrong)

/-- 'laws.FnExactSignMessage': WHATEVER THE INPUT: true; the input reads as it did. -/
def fnExactSignMessageSpec : ChangeSpec := { name := "fnExactSignMessage", fn := fun _ => fun
  | [d1, d2] => { results := [.lit (.bool true)], args := [d1, d2] }
  | _ => none }
def fnExactSignMessageRow : OpenClaim := { program := "ytgaodlegjpbcaaa", sum := "c8e367621a0bd5a4141b60ff9e21f32900c763b9abb183074df60be619fa05a4", func := "loop.example/g00581/laws.FnExactSignMessage", spec := "fnExactSignMessage", apart := false }
def FnExactSignMessageSaid : Prop := fnExactSignMessageRow.holds Try.pinned (OpenSpec.ofChange fnExactSignMessageSpec)

/-- ITS FALSE NEIGHBOUR: 'it returns false'. Refute it at one input. -/
def fnExactSignMessageWrong : ChangeSpec := { name := "fnExactSignMessage", fn := fun _ => fun
  | [d1, d2] => { results := [.lit (.bool false)], args := [d1, d2] }
  | _ => none }
def FnExactSignMessageWrongFalsely : Prop := fnExactSignMessageRow.holds Try.pinned (OpenSpec.ofChange fnExactSignMessageWrong)

/-- 'laws.FnExactVerifySignature': WHATEVER THE INPUT: true; the input reads as it did. -/
def fnExactVerifySignatureSpec : ChangeSpec := { name := "fnExactVerifySignature", fn := fun _ => fun
  | [d1, d2, d3] => { results := [.lit (.bool true)], args := [d1, d2, d3] }
  | _ => none }
def fnExactVerifySignatureRow : OpenClaim := { program := "ytgaodlegjpbcaaa", sum := "c8e367621a0bd5a4141b60ff9e21f32900c763b9abb183074df60be619fa05a4", func := "loop.example/g00581/laws.FnExactVerifySignature", spec := "fnExactVerifySignature", apart := false }
def FnExactVerifySignatureSaid : Prop := fnExactVerifySignatureRow.holds Try.pinned (OpenSpec.ofChange fnExactVerifySignatureSpec)

/-- ITS FALSE NEIGHBOUR: 'it returns false'. Refute it at one input. -/
def fnExactVerifySignatureWrong : ChangeSpec := { name := "fnExactVerifySignature", fn := fun _ => fun
  | [d1, d2, d3] => { results := [.lit (.bool false)], args := [d1, d2, d3] }
  | _ => none }
def FnExactVerifySignatureWrongFalsely : Prop := fnExactVerifySignatureRow.holds Try.pinned (OpenSpec.ofChange fnExactVerifySignatureWrong)

/- THE SECOND FORM. 'bulk': how many values and letters a reading holds, each counted each time it is reached (what is shared counts as often as it is met; a slice's spare places count too). A statement '..UptoSaid' is the law's where the arguments, and the package variables that the reading takes, are together of bulk at most 1048576: NARROWER than '..Said'. Prove '..Said' where nothing that the law and all that it calls make is longer than what came in: it says more and counts as full. Else prove '..UptoSaid'. A law counts once. -/
mutual
def uptoBulk {H : Type} : DataW H → Nat
  | .lit (.string bytes) => bytes.length + 1
  | .lit _ => 1
  | .nil => 1
  | .ptr d => uptoBulk d + 1
  | .slice elems spare => uptoBulkAll elems + uptoBulkAll spare + 1
  | .agg parts => uptoBulkAll parts + 1
  | .iface _ d => uptoBulk d + 1
  | .map entries => uptoBulkEntries entries + 1
  | .held _ => 1
def uptoBulkAll {H : Type} : List (DataW H) → Nat
  | [] => 0
  | d :: r => uptoBulk d + uptoBulkAll r
def uptoBulkEntries {H : Type} : List (Lit × DataW H) → Nat
  | [] => 0
  | x :: r => uptoBulkEntry x + uptoBulkEntries r
def uptoBulkEntry {H : Type} : Lit × DataW H → Nat
  | (.string bytes, d) => bytes.length + uptoBulk d + 1
  | (_, d) => uptoBulk d + 1
 end
def uptoSmall : (H : Type) → List (DataW H) → Bool := fun _ ds => decide (uptoBulkAll ds ≤ 1048576)
def OpenSpec.upto (s : _root_.Go.ChangeSpec) : _root_.Go.OpenSpec := { _root_.Go.OpenSpec.ofChange s with cond := some uptoSmall }

/-- 'laws.FnExactHash', WHERE WHAT IT READS IS OF BULK AT MOST 1048576: true; the input reads as it did. -/
def fnExactHashUptoRow : OpenClaim := { program := "ytgaodlegjpbcaaa", sum := "c8e367621a0bd5a4141b60ff9e21f32900c763b9abb183074df60be619fa05a4", func := "loop.example/g00581/laws.FnExactHash", spec := "fnExactHash", apart := false, narrowed := true }
def FnExactHashUptoSaid : Prop := fnExactHashUptoRow.holds Try.pinned (OpenSpec.upto fnExactHashSpec)

/-- 'laws.FnExactKeyedHash', WHERE WHAT IT READS IS OF BULK AT MOST 1048576: true; the input reads as it did. -/
def fnExactKeyedHashUptoRow : OpenClaim := { program := "ytgaodlegjpbcaaa", sum := "c8e367621a0bd5a4141b60ff9e21f32900c763b9abb183074df60be619fa05a4", func := "loop.example/g00581/laws.FnExactKeyedHash", spec := "fnExactKeyedHash", apart := false, narrowed := true }
def FnExactKeyedHashUptoSaid : Prop := fnExactKeyedHashUptoRow.holds Try.pinned (OpenSpec.upto fnExactKeyedHashSpec)

/-- 'laws.FnExactDeriveFromString', WHERE WHAT IT READS IS OF BULK AT MOST 1048576: true; the input reads as it did. -/
def fnExactDeriveFromStringUptoRow : OpenClaim := { program := "ytgaodlegjpbcaaa", sum := "c8e367621a0bd5a4141b60ff9e21f32900c763b9abb183074df60be619fa05a4", func := "loop.example/g00581/laws.FnExactDeriveFromString", spec := "fnExactDeriveFromString", apart := false, narrowed := true }
def FnExactDeriveFromStringUptoSaid : Prop := fnExactDeriveFromStringUptoRow.holds Try.pinned (OpenSpec.upto fnExactDeriveFromStringSpec)

/-- 'laws.FnExactBytesToInts', WHERE WHAT IT READS IS OF BULK AT MOST 1048576: true; the input reads as it did. -/
def fnExactBytesToIntsUptoRow : OpenClaim := { program := "ytgaodlegjpbcaaa", sum := "c8e367621a0bd5a4141b60ff9e21f32900c763b9abb183074df60be619fa05a4", func := "loop.example/g00581/laws.FnExactBytesToInts", spec := "fnExactBytesToInts", apart := false, narrowed := true }
def FnExactBytesToIntsUptoSaid : Prop := fnExactBytesToIntsUptoRow.holds Try.pinned (OpenSpec.upto fnExactBytesToIntsSpec)

/-- 'laws.FnExactEncrypt', WHERE WHAT IT READS IS OF BULK AT MOST 1048576: true; the input reads as it did. -/
def fnExactEncryptUptoRow : OpenClaim := { program := "ytgaodlegjpbcaaa", sum := "c8e367621a0bd5a4141b60ff9e21f32900c763b9abb183074df60be619fa05a4", func := "loop.example/g00581/laws.FnExactEncrypt", spec := "fnExactEncrypt", apart := false, narrowed := true }
def FnExactEncryptUptoSaid : Prop := fnExactEncryptUptoRow.holds Try.pinned (OpenSpec.upto fnExactEncryptSpec)

/-- 'laws.FnExactDecrypt', WHERE WHAT IT READS IS OF BULK AT MOST 1048576: true; the input reads as it did. -/
def fnExactDecryptUptoRow : OpenClaim := { program := "ytgaodlegjpbcaaa", sum := "c8e367621a0bd5a4141b60ff9e21f32900c763b9abb183074df60be619fa05a4", func := "loop.example/g00581/laws.FnExactDecrypt", spec := "fnExactDecrypt", apart := false, narrowed := true }
def FnExactDecryptUptoSaid : Prop := fnExactDecryptUptoRow.holds Try.pinned (OpenSpec.upto fnExactDecryptSpec)

/-- 'laws.FnCipher', WHERE WHAT IT READS IS OF BULK AT MOST 1048576: true; the input reads as it did. -/
def fnCipherUptoRow : OpenClaim := { program := "ytgaodlegjpbcaaa", sum := "c8e367621a0bd5a4141b60ff9e21f32900c763b9abb183074df60be619fa05a4", func := "loop.example/g00581/laws.FnCipher", spec := "fnCipher", apart := false, narrowed := true }
def FnCipherUptoSaid : Prop := fnCipherUptoRow.holds Try.pinned (OpenSpec.upto fnCipherSpec)

/-- 'laws.FnKeyedHash', WHERE WHAT IT READS IS OF BULK AT MOST 1048576: true; the input reads as it did. -/
def fnKeyedHashUptoRow : OpenClaim := { program := "ytgaodlegjpbcaaa", sum := "c8e367621a0bd5a4141b60ff9e21f32900c763b9abb183074df60be619fa05a4", func := "loop.example/g00581/laws.FnKeyedHash", spec := "fnKeyedHash", apart := false, narrowed := true }
def FnKeyedHashUptoSaid : Prop := fnKeyedHashUptoRow.holds Try.pinned (OpenSpec.upto fnKeyedHashSpec)

/-- 'laws.FnExactPublicKey', WHERE WHAT IT READS IS OF BULK AT MOST 1048576: true; the input reads as it did. -/
def fnExactPublicKeyUptoRow : OpenClaim := { program := "ytgaodlegjpbcaaa", sum := "c8e367621a0bd5a4141b60ff9e21f32900c763b9abb183074df60be619fa05a4", func := "loop.example/g00581/laws.FnExactPublicKey", spec := "fnExactPublicKey", apart := false, narrowed := true }
def FnExactPublicKeyUptoSaid : Prop := fnExactPublicKeyUptoRow.holds Try.pinned (OpenSpec.upto fnExactPublicKeySpec)

/-- 'laws.FnExactPrivateKey', WHERE WHAT IT READS IS OF BULK AT MOST 1048576: true; the input reads as it did. -/
def fnExactPrivateKeyUptoRow : OpenClaim := { program := "ytgaodlegjpbcaaa", sum := "c8e367621a0bd5a4141b60ff9e21f32900c763b9abb183074df60be619fa05a4", func := "loop.example/g00581/laws.FnExactPrivateKey", spec := "fnExactPrivateKey", apart := false, narrowed := true }
def FnExactPrivateKeyUptoSaid : Prop := fnExactPrivateKeyUptoRow.holds Try.pinned (OpenSpec.upto fnExactPrivateKeySpec)

/-- 'laws.FnExactSignMessage', WHERE WHAT IT READS IS OF BULK AT MOST 1048576: true; the input reads as it did. -/
def fnExactSignMessageUptoRow : OpenClaim := { program := "ytgaodlegjpbcaaa", sum := "c8e367621a0bd5a4141b60ff9e21f32900c763b9abb183074df60be619fa05a4", func := "loop.example/g00581/laws.FnExactSignMessage", spec := "fnExactSignMessage", apart := false, narrowed := true }
def FnExactSignMessageUptoSaid : Prop := fnExactSignMessageUptoRow.holds Try.pinned (OpenSpec.upto fnExactSignMessageSpec)

/-- 'laws.FnExactVerifySignature', WHERE WHAT IT READS IS OF BULK AT MOST 1048576: true; the input reads as it did. -/
def fnExactVerifySignatureUptoRow : OpenClaim := { program := "ytgaodlegjpbcaaa", sum := "c8e367621a0bd5a4141b60ff9e21f32900c763b9abb183074df60be619fa05a4", func := "loop.example/g00581/laws.FnExactVerifySignature", spec := "fnExactVerifySignature", apart := false, narrowed := true }
def FnExactVerifySignatureUptoSaid : Prop := fnExactVerifySignatureUptoRow.holds Try.pinned (OpenSpec.upto fnExactVerifySignatureSpec)

end Rows
end Go.Proofs.Ytgaodlegjpbcaaa
