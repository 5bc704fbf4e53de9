/-
  No cell of these rows narrows 'for every input' (looked for: loops, veiled, ifaces, maps, wideKeys, modest, calm, conditions, laid).
  DERIVED. THE GIVEN ROWS OF THIS SEAT. 12 by the template 'for every input the law returns true; each argument reads behind the call as it read before'; 0 by the template 'total and deterministic' (their statements: YtplbijibddnfjaaTotals.lean).
  GIVEN WITH THE SEED: the statements are not yours to turn. If you find one false, say at which input.
  Laid BY PROGRAM, IN A SANDBOX (cutbox-rows.mjs): the forced cells as the released guide's own fill.sh prints them over the translation cc301b2c6084d00c… (all of the seat's roots in one cut). By AI agents, Wed Nov 11 2026. No macro, syntax, notation, axiom, sorry.
-/
import Derived.Test.YtplbijibddnfjaaChecked
import GoSem.Claim
import GoSem.ClaimJoined
import GoSem.ClaimMapViews
import Derived.JoinedTies
import Derived.KernelRfl
namespace Go.Proofs.Ytplbijibddnfjaa
/- THE CELL 'sum', in the pinned program and in every row, IS THE sha256 OF THE DUMP (.gsa) THAT YtplbijibddnfjaaProg.lean LOADS. Nothing in Lean hashes anything: it is a label: what it is worth is what the hold of that sum in a sandbox is worth. -/
noncomputable def Try.pinned : Pinned := { name := "ytplbijibddnfjaa", sum := "cc301b2c6084d00c901d0c519121e48a530ec986ac8fe63547e7ad89b50a94b0", checked := Try.checked }
namespace Rows
def none {H : Type} : Left H := { results := [], args := [] }

/-- 'laws.FnExactConstants': WHATEVER THE INPUT: true; the input reads as it did. -/
def fnExactConstantsSpec : ChangeSpec := { name := "fnExactConstants", fn := fun _ => fun
  | [] => { results := [.lit (.bool true)], args := [] }
  | _ => none }
def fnExactConstantsRow : OpenClaim := { program := "ytplbijibddnfjaa", sum := "cc301b2c6084d00c901d0c519121e48a530ec986ac8fe63547e7ad89b50a94b0", func := "loop.example/g00501/laws.FnExactConstants", spec := "fnExactConstants", apart := false }
def FnExactConstantsSaid : Prop := fnExactConstantsRow.holds Try.pinned (OpenSpec.ofChange fnExactConstantsSpec)

/-- ITS FALSE NEIGHBOUR: 'it returns false'. Refute it at one input. -/
def fnExactConstantsWrong : ChangeSpec := { name := "fnExactConstants", fn := fun _ => fun
  | [] => { results := [.lit (.bool false)], args := [] }
  | _ => none }
def FnExactConstantsWrongFalsely : Prop := fnExactConstantsRow.holds Try.pinned (OpenSpec.ofChange fnExactConstantsWrong)

/-- 'laws.FnExactFlagsOk': WHATEVER THE INPUT: true; the input reads as it did. -/
def fnExactFlagsOkSpec : ChangeSpec := { name := "fnExactFlagsOk", fn := fun _ => fun
  | [d] => { results := [.lit (.bool true)], args := [d] }
  | _ => none }
def fnExactFlagsOkRow : OpenClaim := { program := "ytplbijibddnfjaa", sum := "cc301b2c6084d00c901d0c519121e48a530ec986ac8fe63547e7ad89b50a94b0", func := "loop.example/g00501/laws.FnExactFlagsOk", spec := "fnExactFlagsOk", apart := false }
def FnExactFlagsOkSaid : Prop := fnExactFlagsOkRow.holds Try.pinned (OpenSpec.ofChange fnExactFlagsOkSpec)

/-- ITS FALSE NEIGHBOUR: 'it returns false'. Refute it at one input. -/
def fnExactFlagsOkWrong : ChangeSpec := { name := "fnExactFlagsOk", fn := fun _ => fun
  | [d] => { results := [.lit (.bool false)], args := [d] }
  | _ => none }
def FnExactFlagsOkWrongFalsely : Prop := fnExactFlagsOkRow.holds Try.pinned (OpenSpec.ofChange fnExactFlagsOkWrong)

/-- 'laws.FnExactOpText': WHATEVER THE INPUT: true; the input reads as it did. -/
def fnExactOpTextSpec : ChangeSpec := { name := "fnExactOpText", fn := fun _ => fun
  | [d] => { results := [.lit (.bool true)], args := [d] }
  | _ => none }
def fnExactOpTextRow : OpenClaim := { program := "ytplbijibddnfjaa", sum := "cc301b2c6084d00c901d0c519121e48a530ec986ac8fe63547e7ad89b50a94b0", func := "loop.example/g00501/laws.FnExactOpText", spec := "fnExactOpText", apart := false }
def FnExactOpTextSaid : Prop := fnExactOpTextRow.holds Try.pinned (OpenSpec.ofChange fnExactOpTextSpec)

/-- ITS FALSE NEIGHBOUR: 'it returns false'. Refute it at one input. -/
def fnExactOpTextWrong : ChangeSpec := { name := "fnExactOpText", fn := fun _ => fun
  | [d] => { results := [.lit (.bool false)], args := [d] }
  | _ => none }
def FnExactOpTextWrongFalsely : Prop := fnExactOpTextRow.holds Try.pinned (OpenSpec.ofChange fnExactOpTextWrong)

/-- 'laws.FnExactKindWord': WHATEVER THE INPUT: true; the input reads as it did. -/
def fnExactKindWordSpec : ChangeSpec := { name := "fnExactKindWord", fn := fun _ => fun
  | [d] => { results := [.lit (.bool true)], args := [d] }
  | _ => none }
def fnExactKindWordRow : OpenClaim := { program := "ytplbijibddnfjaa", sum := "cc301b2c6084d00c901d0c519121e48a530ec986ac8fe63547e7ad89b50a94b0", func := "loop.example/g00501/laws.FnExactKindWord", spec := "fnExactKindWord", apart := false }
def FnExactKindWordSaid : Prop := fnExactKindWordRow.holds Try.pinned (OpenSpec.ofChange fnExactKindWordSpec)

/-- ITS FALSE NEIGHBOUR: 'it returns false'. Refute it at one input. -/
def fnExactKindWordWrong : ChangeSpec := { name := "fnExactKindWord", fn := fun _ => fun
  | [d] => { results := [.lit (.bool false)], args := [d] }
  | _ => none }
def FnExactKindWordWrongFalsely : Prop := fnExactKindWordRow.holds Try.pinned (OpenSpec.ofChange fnExactKindWordWrong)

/-- 'laws.FnExactUpper': WHATEVER THE INPUT: true; the input reads as it did. -/
def fnExactUpperSpec : ChangeSpec := { name := "fnExactUpper", fn := fun _ => fun
  | [d] => { results := [.lit (.bool true)], args := [d] }
  | _ => none }
def fnExactUpperRow : OpenClaim := { program := "ytplbijibddnfjaa", sum := "cc301b2c6084d00c901d0c519121e48a530ec986ac8fe63547e7ad89b50a94b0", func := "loop.example/g00501/laws.FnExactUpper", spec := "fnExactUpper", apart := false }
def FnExactUpperSaid : Prop := fnExactUpperRow.holds Try.pinned (OpenSpec.ofChange fnExactUpperSpec)

/-- ITS FALSE NEIGHBOUR: 'it returns false'. Refute it at one input. -/
def fnExactUpperWrong : ChangeSpec := { name := "fnExactUpper", fn := fun _ => fun
  | [d] => { results := [.lit (.bool false)], args := [d] }
  | _ => none }
def FnExactUpperWrongFalsely : Prop := fnExactUpperRow.holds Try.pinned (OpenSpec.ofChange fnExactUpperWrong)

/-- 'laws.FnExactAtomOk': WHATEVER THE INPUT: true; the input reads as it did. -/
def fnExactAtomOkSpec : ChangeSpec := { name := "fnExactAtomOk", fn := fun _ => fun
  | [d] => { results := [.lit (.bool true)], args := [d] }
  | _ => none }
def fnExactAtomOkRow : OpenClaim := { program := "ytplbijibddnfjaa", sum := "cc301b2c6084d00c901d0c519121e48a530ec986ac8fe63547e7ad89b50a94b0", func := "loop.example/g00501/laws.FnExactAtomOk", spec := "fnExactAtomOk", inPlace := ["internal/bytealg.IndexByteString"], apart := false }
def FnExactAtomOkSaid : Prop := fnExactAtomOkRow.holds Try.pinned (OpenSpec.ofChange fnExactAtomOkSpec)

/-- ITS FALSE NEIGHBOUR: 'it returns false'. Refute it at one input. -/
def fnExactAtomOkWrong : ChangeSpec := { name := "fnExactAtomOk", fn := fun _ => fun
  | [d] => { results := [.lit (.bool false)], args := [d] }
  | _ => none }
def FnExactAtomOkWrongFalsely : Prop := fnExactAtomOkRow.holds Try.pinned (OpenSpec.ofChange fnExactAtomOkWrong)

/-- 'laws.FnExactTagOk': WHATEVER THE INPUT: true; the input reads as it did. -/
def fnExactTagOkSpec : ChangeSpec := { name := "fnExactTagOk", fn := fun _ => fun
  | [d] => { results := [.lit (.bool true)], args := [d] }
  | _ => none }
def fnExactTagOkRow : OpenClaim := { program := "ytplbijibddnfjaa", sum := "cc301b2c6084d00c901d0c519121e48a530ec986ac8fe63547e7ad89b50a94b0", func := "loop.example/g00501/laws.FnExactTagOk", spec := "fnExactTagOk", apart := false }
def FnExactTagOkSaid : Prop := fnExactTagOkRow.holds Try.pinned (OpenSpec.ofChange fnExactTagOkSpec)

/-- ITS FALSE NEIGHBOUR: 'it returns false'. Refute it at one input. -/
def fnExactTagOkWrong : ChangeSpec := { name := "fnExactTagOk", fn := fun _ => fun
  | [d] => { results := [.lit (.bool false)], args := [d] }
  | _ => none }
def FnExactTagOkWrongFalsely : Prop := fnExactTagOkRow.holds Try.pinned (OpenSpec.ofChange fnExactTagOkWrong)

/-- 'laws.FnExactHex': WHATEVER THE INPUT: true; the input reads as it did. -/
def fnExactHexSpec : ChangeSpec := { name := "fnExactHex", fn := fun _ => fun
  | [d] => { results := [.lit (.bool true)], args := [d] }
  | _ => none }
def fnExactHexRow : OpenClaim := { program := "ytplbijibddnfjaa", sum := "cc301b2c6084d00c901d0c519121e48a530ec986ac8fe63547e7ad89b50a94b0", func := "loop.example/g00501/laws.FnExactHex", spec := "fnExactHex", apart := false }
def FnExactHexSaid : Prop := fnExactHexRow.holds Try.pinned (OpenSpec.ofChange fnExactHexSpec)

/-- ITS FALSE NEIGHBOUR: 'it returns false'. Refute it at one input. -/
def fnExactHexWrong : ChangeSpec := { name := "fnExactHex", fn := fun _ => fun
  | [d] => { results := [.lit (.bool false)], args := [d] }
  | _ => none }
def FnExactHexWrongFalsely : Prop := fnExactHexRow.holds Try.pinned (OpenSpec.ofChange fnExactHexWrong)

/-- 'laws.FnExactReadOp': WHATEVER THE INPUT: true; the input reads as it did. -/
def fnExactReadOpSpec : ChangeSpec := { name := "fnExactReadOp", fn := fun _ => fun
  | [d] => { results := [.lit (.bool true)], args := [d] }
  | _ => none }
def fnExactReadOpRow : OpenClaim := { program := "ytplbijibddnfjaa", sum := "cc301b2c6084d00c901d0c519121e48a530ec986ac8fe63547e7ad89b50a94b0", func := "loop.example/g00501/laws.FnExactReadOp", spec := "fnExactReadOp", apart := false }
def FnExactReadOpSaid : Prop := fnExactReadOpRow.holds Try.pinned (OpenSpec.ofChange fnExactReadOpSpec)

/-- ITS FALSE NEIGHBOUR: 'it returns false'. Refute it at one input. -/
def fnExactReadOpWrong : ChangeSpec := { name := "fnExactReadOp", fn := fun _ => fun
  | [d] => { results := [.lit (.bool false)], args := [d] }
  | _ => none }
def FnExactReadOpWrongFalsely : Prop := fnExactReadOpRow.holds Try.pinned (OpenSpec.ofChange fnExactReadOpWrong)

/-- 'laws.FnExactChanged': WHATEVER THE INPUT: true; the input reads as it did. -/
def fnExactChangedSpec : ChangeSpec := { name := "fnExactChanged", fn := fun _ => fun
  | [d1, d2, d3] => { results := [.lit (.bool true)], args := [d1, d2, d3] }
  | _ => none }
def fnExactChangedRow : OpenClaim := { program := "ytplbijibddnfjaa", sum := "cc301b2c6084d00c901d0c519121e48a530ec986ac8fe63547e7ad89b50a94b0", func := "loop.example/g00501/laws.FnExactChanged", spec := "fnExactChanged", apart := false }
def FnExactChangedSaid : Prop := fnExactChangedRow.holds Try.pinned (OpenSpec.ofChange fnExactChangedSpec)

/-- ITS FALSE NEIGHBOUR: 'it returns false'. Refute it at one input. -/
def fnExactChangedWrong : ChangeSpec := { name := "fnExactChanged", fn := fun _ => fun
  | [d1, d2, d3] => { results := [.lit (.bool false)], args := [d1, d2, d3] }
  | _ => none }
def FnExactChangedWrongFalsely : Prop := fnExactChangedRow.holds Try.pinned (OpenSpec.ofChange fnExactChangedWrong)

/-- 'laws.FnExactParts': WHATEVER THE INPUT: true; the input reads as it did. -/
def fnExactPartsSpec : ChangeSpec := { name := "fnExactParts", fn := fun _ => fun
  | [d1, d2] => { results := [.lit (.bool true)], args := [d1, d2] }
  | _ => none }
def fnExactPartsRow : OpenClaim := { program := "ytplbijibddnfjaa", sum := "cc301b2c6084d00c901d0c519121e48a530ec986ac8fe63547e7ad89b50a94b0", func := "loop.example/g00501/laws.FnExactParts", spec := "fnExactParts", apart := false }
def FnExactPartsSaid : Prop := fnExactPartsRow.holds Try.pinned (OpenSpec.ofChange fnExactPartsSpec)

/-- ITS FALSE NEIGHBOUR: 'it returns false'. Refute it at one input. -/
def fnExactPartsWrong : ChangeSpec := { name := "fnExactParts", fn := fun _ => fun
  | [d1, d2] => { results := [.lit (.bool false)], args := [d1, d2] }
  | _ => none }
def FnExactPartsWrongFalsely : Prop := fnExactPartsRow.holds Try.pinned (OpenSpec.ofChange fnExactPartsWrong)

/-- 'laws.FnExactSetOk': WHATEVER THE INPUT: true; the input reads as it did. -/
def fnExactSetOkSpec : ChangeSpec := { name := "fnExactSetOk", fn := fun _ => fun
  | [d] => { results := [.lit (.bool true)], args := [d] }
  | _ => none }
def fnExactSetOkRow : OpenClaim := { program := "ytplbijibddnfjaa", sum := "cc301b2c6084d00c901d0c519121e48a530ec986ac8fe63547e7ad89b50a94b0", func := "loop.example/g00501/laws.FnExactSetOk", spec := "fnExactSetOk", unfollowed := true, recurses := true, apart := false }
def FnExactSetOkSaid : Prop := fnExactSetOkRow.holds Try.pinned (OpenSpec.ofChange fnExactSetOkSpec)

/-- ITS FALSE NEIGHBOUR: 'it returns false'. Refute it at one input. -/
def fnExactSetOkWrong : ChangeSpec := { name := "fnExactSetOk", fn := fun _ => fun
  | [d] => { results := [.lit (.bool false)], args := [d] }
  | _ => none }
def FnExactSetOkWrongFalsely : Prop := fnExactSetOkRow.holds Try.pinned (OpenSpec.ofChange fnExactSetOkWrong)

/- THE SECOND FORM. 'bulk': how many values and letters a reading holds, each counted each time it is reached (what is shared counts as often as it is met; a slice's spare places count too). A statement '..UptoSaid' is the law's where the arguments, and the package variables that the reading takes, are together of bulk at most 1048576: NARROWER than '..Said'. Prove '..Said' where nothing that the law and all that it calls make is longer than what came in: it says more and counts as full. Else prove '..UptoSaid'. A law counts once. -/
mutual
def uptoBulk {H : Type} : DataW H → Nat
  | .lit (.string bytes) => bytes.length + 1
  | .lit _ => 1
  | .nil => 1
  | .ptr d => uptoBulk d + 1
  | .slice elems spare => uptoBulkAll elems + uptoBulkAll spare + 1
  | .agg parts => uptoBulkAll parts + 1
  | .iface _ d => uptoBulk d + 1
  | .map entries => uptoBulkEntries entries + 1
  | .held _ => 1
def uptoBulkAll {H : Type} : List (DataW H) → Nat
  | [] => 0
  | d :: r => uptoBulk d + uptoBulkAll r
def uptoBulkEntries {H : Type} : List (Lit × DataW H) → Nat
  | [] => 0
  | x :: r => uptoBulkEntry x + uptoBulkEntries r
def uptoBulkEntry {H : Type} : Lit × DataW H → Nat
  | (.string bytes, d) => bytes.length + uptoBulk d + 1
  | (_, d) => uptoBulk d + 1
 end
def uptoSmall : (H : Type) → List (DataW H) → Bool := fun _ ds => decide (uptoBulkAll ds ≤ 1048576)
def OpenSpec.upto (s : _root_.Go.ChangeSpec) : _root_.Go.OpenSpec := { _root_.Go.OpenSpec.ofChange s with cond := some uptoSmall }

/-- 'laws.FnExactConstants', WHERE WHAT IT READS IS OF BULK AT MOST 1048576: true; the input reads as it did. -/
def fnExactConstantsUptoRow : OpenClaim := { program := "ytplbijibddnfjaa", sum := "cc301b2c6084d00c901d0c519121e48a530ec986ac8fe63547e7ad89b50a94b0", func := "loop.example/g00501/laws.FnExactConstants", spec := "fnExactConstants", apart := false, narrowed := true }
def FnExactConstantsUptoSaid : Prop := fnExactConstantsUptoRow.holds Try.pinned (OpenSpec.upto fnExactConstantsSpec)

/-- 'laws.FnExactFlagsOk', WHERE WHAT IT READS IS OF BULK AT MOST 1048576: true; the input reads as it did. -/
def fnExactFlagsOkUptoRow : OpenClaim := { program := "ytplbijibddnfjaa", sum := "cc301b2c6084d00c901d0c519121e48a530ec986ac8fe63547e7ad89b50a94b0", func := "loop.example/g00501/laws.FnExactFlagsOk", spec := "fnExactFlagsOk", apart := false, narrowed := true }
def FnExactFlagsOkUptoSaid : Prop := fnExactFlagsOkUptoRow.holds Try.pinned (OpenSpec.upto fnExactFlagsOkSpec)

/-- 'laws.FnExactOpText', WHERE WHAT IT READS IS OF BULK AT MOST 1048576: true; the input reads as it did. -/
def fnExactOpTextUptoRow : OpenClaim := { program := "ytplbijibddnfjaa", sum := "cc301b2c6084d00c901d0c519121e48a530ec986ac8fe63547e7ad89b50a94b0", func := "loop.example/g00501/laws.FnExactOpText", spec := "fnExactOpText", apart := false, narrowed := true }
def FnExactOpTextUptoSaid : Prop := fnExactOpTextUptoRow.holds Try.pinned (OpenSpec.upto fnExactOpTextSpec)

/-- 'laws.FnExactKindWord', WHERE WHAT IT READS IS OF BULK AT MOST 1048576: true; the input reads as it did. -/
def fnExactKindWordUptoRow : OpenClaim := { program := "ytplbijibddnfjaa", sum := "cc301b2c6084d00c901d0c519121e48a530ec986ac8fe63547e7ad89b50a94b0", func := "loop.example/g00501/laws.FnExactKindWord", spec := "fnExactKindWord", apart := false, narrowed := true }
def FnExactKindWordUptoSaid : Prop := fnExactKindWordUptoRow.holds Try.pinned (OpenSpec.upto fnExactKindWordSpec)

/-- 'laws.FnExactUpper', WHERE WHAT IT READS IS OF BULK AT MOST 1048576: true; the input reads as it did. -/
def fnExactUpperUptoRow : OpenClaim := { program := "ytplbijibddnfjaa", sum := "cc301b2c6084d00c901d0c519121e48a530ec986ac8fe63547e7ad89b50a94b0", func := "loop.example/g00501/laws.FnExactUpper", spec := "fnExactUpper", apart := false, narrowed := true }
def FnExactUpperUptoSaid : Prop := fnExactUpperUptoRow.holds Try.pinned (OpenSpec.upto fnExactUpperSpec)

/-- 'laws.FnExactAtomOk', WHERE WHAT IT READS IS OF BULK AT MOST 1048576: true; the input reads as it did. -/
def fnExactAtomOkUptoRow : OpenClaim := { program := "ytplbijibddnfjaa", sum := "cc301b2c6084d00c901d0c519121e48a530ec986ac8fe63547e7ad89b50a94b0", func := "loop.example/g00501/laws.FnExactAtomOk", spec := "fnExactAtomOk", inPlace := ["internal/bytealg.IndexByteString"], apart := false, narrowed := true }
def FnExactAtomOkUptoSaid : Prop := fnExactAtomOkUptoRow.holds Try.pinned (OpenSpec.upto fnExactAtomOkSpec)

/-- 'laws.FnExactTagOk', WHERE WHAT IT READS IS OF BULK AT MOST 1048576: true; the input reads as it did. -/
def fnExactTagOkUptoRow : OpenClaim := { program := "ytplbijibddnfjaa", sum := "cc301b2c6084d00c901d0c519121e48a530ec986ac8fe63547e7ad89b50a94b0", func := "loop.example/g00501/laws.FnExactTagOk", spec := "fnExactTagOk", apart := false, narrowed := true }
def FnExactTagOkUptoSaid : Prop := fnExactTagOkUptoRow.holds Try.pinned (OpenSpec.upto fnExactTagOkSpec)

/-- 'laws.FnExactHex', WHERE WHAT IT READS IS OF BULK AT MOST 1048576: true; the input reads as it did. -/
def fnExactHexUptoRow : OpenClaim := { program := "ytplbijibddnfjaa", sum := "cc301b2c6084d00c901d0c519121e48a530ec986ac8fe63547e7ad89b50a94b0", func := "loop.example/g00501/laws.FnExactHex", spec := "fnExactHex", apart := false, narrowed := true }
def FnExactHexUptoSaid : Prop := fnExactHexUptoRow.holds Try.pinned (OpenSpec.upto fnExactHexSpec)

/-- 'laws.FnExactReadOp', WHERE WHAT IT READS IS OF BULK AT MOST 1048576: true; the input reads as it did. -/
def fnExactReadOpUptoRow : OpenClaim := { program := "ytplbijibddnfjaa", sum := "cc301b2c6084d00c901d0c519121e48a530ec986ac8fe63547e7ad89b50a94b0", func := "loop.example/g00501/laws.FnExactReadOp", spec := "fnExactReadOp", apart := false, narrowed := true }
def FnExactReadOpUptoSaid : Prop := fnExactReadOpUptoRow.holds Try.pinned (OpenSpec.upto fnExactReadOpSpec)

/-- 'laws.FnExactChanged', WHERE WHAT IT READS IS OF BULK AT MOST 1048576: true; the input reads as it did. -/
def fnExactChangedUptoRow : OpenClaim := { program := "ytplbijibddnfjaa", sum := "cc301b2c6084d00c901d0c519121e48a530ec986ac8fe63547e7ad89b50a94b0", func := "loop.example/g00501/laws.FnExactChanged", spec := "fnExactChanged", apart := false, narrowed := true }
def FnExactChangedUptoSaid : Prop := fnExactChangedUptoRow.holds Try.pinned (OpenSpec.upto fnExactChangedSpec)

/-- 'laws.FnExactParts', WHERE WHAT IT READS IS OF BULK AT MOST 1048576: true; the input reads as it did. -/
def fnExactPartsUptoRow : OpenClaim := { program := "ytplbijibddnfjaa", sum := "cc301b2c6084d00c901d0c519121e48a530ec986ac8fe63547e7ad89b50a94b0", func := "loop.example/g00501/laws.FnExactParts", spec := "fnExactParts", apart := false, narrowed := true }
def FnExactPartsUptoSaid : Prop := fnExactPartsUptoRow.holds Try.pinned (OpenSpec.upto fnExactPartsSpec)

/-- 'laws.FnExactSetOk', WHERE WHAT IT READS IS OF BULK AT MOST 1048576: true; the input reads as it did. -/
def fnExactSetOkUptoRow : OpenClaim := { program := "ytplbijibddnfjaa", sum := "cc301b2c6084d00c901d0c519121e48a530ec986ac8fe63547e7ad89b50a94b0", func := "loop.example/g00501/laws.FnExactSetOk", spec := "fnExactSetOk", unfollowed := true, recurses := true, apart := false, narrowed := true }
def FnExactSetOkUptoSaid : Prop := fnExactSetOkUptoRow.holds Try.pinned (OpenSpec.upto fnExactSetOkSpec)

end Rows
end Go.Proofs.Ytplbijibddnfjaa
