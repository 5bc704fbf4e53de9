/-
  No cell of these rows narrows 'for every input' (looked for: loops, veiled, ifaces, maps, wideKeys, modest, calm, conditions, laid).
  DERIVED. THE GIVEN ROWS OF THIS SEAT. 9 by the template 'for every input the law returns true; each argument reads behind the call as it read before'; 0 by the template 'total and deterministic' (their statements: YtjiboekeeafpoaaTotals.lean).
  GIVEN WITH THE SEED: the statements are not yours to turn. If you find one false, say at which input.
  Laid BY PROGRAM, IN A SANDBOX (cutbox-rows.mjs): the forced cells as the released guide's own fill.sh prints them over the translation ca7b0dd083762466… (all of the seat's roots in one cut). By AI agents, Wed Nov 11 2026. No macro, syntax, notation, axiom, sorry.
-/
import Derived.Test.YtjiboekeeafpoaaChecked
import GoSem.Claim
import GoSem.ClaimJoined
import GoSem.ClaimMapViews
import Derived.JoinedTies
import Derived.KernelRfl
namespace Go.Proofs.Ytjiboekeeafpoaa
/- THE CELL 'sum', in the pinned program and in every row, IS THE sha256 OF THE DUMP (.gsa) THAT YtjiboekeeafpoaaProg.lean LOADS. Nothing in Lean hashes anything: it is a label: what it is worth is what the hold of that sum in a sandbox is worth. -/
noncomputable def Try.pinned : Pinned := { name := "ytjiboekeeafpoaa", sum := "ca7b0dd083762466561fc3b05ec0e38e0f05378bbf5cba86c844c79313cf9457", checked := Try.checked }
namespace Rows
def none {H : Type} : Left H := { results := [], args := [] }

/-- 'laws.FnExactCommandOk': WHATEVER THE INPUT: true; the input reads as it did. -/
def fnExactCommandOkSpec : ChangeSpec := { name := "fnExactCommandOk", fn := fun _ => fun
  | [d] => { results := [.lit (.bool true)], args := [d] }
  | _ => none }
def fnExactCommandOkRow : OpenClaim := { program := "ytjiboekeeafpoaa", sum := "ca7b0dd083762466561fc3b05ec0e38e0f05378bbf5cba86c844c79313cf9457", func := "loop.example/g00501/laws.FnExactCommandOk", spec := "fnExactCommandOk", inPlace := ["internal/bytealg.IndexByteString", "internal/bytealg.IndexString"], unfollowed := true, recurses := true, named := ["internal/bytealg.MaxLen"], apart := false }
def FnExactCommandOkSaid : Prop := fnExactCommandOkRow.holds Try.pinned (OpenSpec.ofChange fnExactCommandOkSpec)

/-- ITS FALSE NEIGHBOUR: 'it returns false'. Refute it at one input. -/
def fnExactCommandOkWrong : ChangeSpec := { name := "fnExactCommandOk", fn := fun _ => fun
  | [d] => { results := [.lit (.bool false)], args := [d] }
  | _ => none }
def FnExactCommandOkWrongFalsely : Prop := fnExactCommandOkRow.holds Try.pinned (OpenSpec.ofChange fnExactCommandOkWrong)

/-- 'laws.FnExactFilterTokens': WHATEVER THE INPUT: true; the input reads as it did. -/
def fnExactFilterTokensSpec : ChangeSpec := { name := "fnExactFilterTokens", fn := fun _ => fun
  | [d] => { results := [.lit (.bool true)], args := [d] }
  | _ => none }
def fnExactFilterTokensRow : OpenClaim := { program := "ytjiboekeeafpoaa", sum := "ca7b0dd083762466561fc3b05ec0e38e0f05378bbf5cba86c844c79313cf9457", func := "loop.example/g00501/laws.FnExactFilterTokens", spec := "fnExactFilterTokens", inPlace := ["internal/bytealg.IndexByteString", "internal/bytealg.IndexString"], unfollowed := true, recurses := true, named := ["internal/bytealg.MaxLen"], apart := false }
def FnExactFilterTokensSaid : Prop := fnExactFilterTokensRow.holds Try.pinned (OpenSpec.ofChange fnExactFilterTokensSpec)

/-- ITS FALSE NEIGHBOUR: 'it returns false'. Refute it at one input. -/
def fnExactFilterTokensWrong : ChangeSpec := { name := "fnExactFilterTokens", fn := fun _ => fun
  | [d] => { results := [.lit (.bool false)], args := [d] }
  | _ => none }
def FnExactFilterTokensWrongFalsely : Prop := fnExactFilterTokensRow.holds Try.pinned (OpenSpec.ofChange fnExactFilterTokensWrong)

/-- 'laws.FnExactSameCommand': WHATEVER THE INPUT: true; the input reads as it did. -/
def fnExactSameCommandSpec : ChangeSpec := { name := "fnExactSameCommand", fn := fun _ => fun
  | [d1, d2] => { results := [.lit (.bool true)], args := [d1, d2] }
  | _ => none }
def fnExactSameCommandRow : OpenClaim := { program := "ytjiboekeeafpoaa", sum := "ca7b0dd083762466561fc3b05ec0e38e0f05378bbf5cba86c844c79313cf9457", func := "loop.example/g00501/laws.FnExactSameCommand", spec := "fnExactSameCommand", unfollowed := true, recurses := true, apart := false }
def FnExactSameCommandSaid : Prop := fnExactSameCommandRow.holds Try.pinned (OpenSpec.ofChange fnExactSameCommandSpec)

/-- ITS FALSE NEIGHBOUR: 'it returns false'. Refute it at one input. -/
def fnExactSameCommandWrong : ChangeSpec := { name := "fnExactSameCommand", fn := fun _ => fun
  | [d1, d2] => { results := [.lit (.bool false)], args := [d1, d2] }
  | _ => none }
def FnExactSameCommandWrongFalsely : Prop := fnExactSameCommandRow.holds Try.pinned (OpenSpec.ofChange fnExactSameCommandWrong)

/-- 'laws.FnExactSameFilter': WHATEVER THE INPUT: true; the input reads as it did. -/
def fnExactSameFilterSpec : ChangeSpec := { name := "fnExactSameFilter", fn := fun _ => fun
  | [d1, d2] => { results := [.lit (.bool true)], args := [d1, d2] }
  | _ => none }
def fnExactSameFilterRow : OpenClaim := { program := "ytjiboekeeafpoaa", sum := "ca7b0dd083762466561fc3b05ec0e38e0f05378bbf5cba86c844c79313cf9457", func := "loop.example/g00501/laws.FnExactSameFilter", spec := "fnExactSameFilter", unfollowed := true, recurses := true, apart := false }
def FnExactSameFilterSaid : Prop := fnExactSameFilterRow.holds Try.pinned (OpenSpec.ofChange fnExactSameFilterSpec)

/-- ITS FALSE NEIGHBOUR: 'it returns false'. Refute it at one input. -/
def fnExactSameFilterWrong : ChangeSpec := { name := "fnExactSameFilter", fn := fun _ => fun
  | [d1, d2] => { results := [.lit (.bool false)], args := [d1, d2] }
  | _ => none }
def FnExactSameFilterWrongFalsely : Prop := fnExactSameFilterRow.holds Try.pinned (OpenSpec.ofChange fnExactSameFilterWrong)

/-- 'laws.FnExactFilterOk': WHATEVER THE INPUT: true; the input reads as it did. -/
def fnExactFilterOkSpec : ChangeSpec := { name := "fnExactFilterOk", fn := fun _ => fun
  | [d] => { results := [.lit (.bool true)], args := [d] }
  | _ => none }
def fnExactFilterOkRow : OpenClaim := { program := "ytjiboekeeafpoaa", sum := "ca7b0dd083762466561fc3b05ec0e38e0f05378bbf5cba86c844c79313cf9457", func := "loop.example/g00501/laws.FnExactFilterOk", spec := "fnExactFilterOk", inPlace := ["internal/bytealg.IndexByteString", "internal/bytealg.IndexString"], unfollowed := true, recurses := true, named := ["internal/bytealg.MaxLen"], apart := false }
def FnExactFilterOkSaid : Prop := fnExactFilterOkRow.holds Try.pinned (OpenSpec.ofChange fnExactFilterOkSpec)

/-- ITS FALSE NEIGHBOUR: 'it returns false'. Refute it at one input. -/
def fnExactFilterOkWrong : ChangeSpec := { name := "fnExactFilterOk", fn := fun _ => fun
  | [d] => { results := [.lit (.bool false)], args := [d] }
  | _ => none }
def FnExactFilterOkWrongFalsely : Prop := fnExactFilterOkRow.holds Try.pinned (OpenSpec.ofChange fnExactFilterOkWrong)

/-- 'laws.FnExactScopeOk': WHATEVER THE INPUT: true; the input reads as it did. -/
def fnExactScopeOkSpec : ChangeSpec := { name := "fnExactScopeOk", fn := fun _ => fun
  | [d] => { results := [.lit (.bool true)], args := [d] }
  | _ => none }
def fnExactScopeOkRow : OpenClaim := { program := "ytjiboekeeafpoaa", sum := "ca7b0dd083762466561fc3b05ec0e38e0f05378bbf5cba86c844c79313cf9457", func := "loop.example/g00501/laws.FnExactScopeOk", spec := "fnExactScopeOk", inPlace := ["internal/bytealg.IndexByteString", "internal/bytealg.IndexString"], named := ["internal/bytealg.MaxLen"], apart := false }
def FnExactScopeOkSaid : Prop := fnExactScopeOkRow.holds Try.pinned (OpenSpec.ofChange fnExactScopeOkSpec)

/-- ITS FALSE NEIGHBOUR: 'it returns false'. Refute it at one input. -/
def fnExactScopeOkWrong : ChangeSpec := { name := "fnExactScopeOk", fn := fun _ => fun
  | [d] => { results := [.lit (.bool false)], args := [d] }
  | _ => none }
def FnExactScopeOkWrongFalsely : Prop := fnExactScopeOkRow.holds Try.pinned (OpenSpec.ofChange fnExactScopeOkWrong)

/-- 'laws.FnExactNameOk': WHATEVER THE INPUT: true; the input reads as it did. -/
def fnExactNameOkSpec : ChangeSpec := { name := "fnExactNameOk", fn := fun _ => fun
  | [d] => { results := [.lit (.bool true)], args := [d] }
  | _ => none }
def fnExactNameOkRow : OpenClaim := { program := "ytjiboekeeafpoaa", sum := "ca7b0dd083762466561fc3b05ec0e38e0f05378bbf5cba86c844c79313cf9457", func := "loop.example/g00501/laws.FnExactNameOk", spec := "fnExactNameOk", inPlace := ["internal/bytealg.IndexByteString", "internal/bytealg.IndexString"], named := ["internal/bytealg.MaxLen"], apart := false }
def FnExactNameOkSaid : Prop := fnExactNameOkRow.holds Try.pinned (OpenSpec.ofChange fnExactNameOkSpec)

/-- ITS FALSE NEIGHBOUR: 'it returns false'. Refute it at one input. -/
def fnExactNameOkWrong : ChangeSpec := { name := "fnExactNameOk", fn := fun _ => fun
  | [d] => { results := [.lit (.bool false)], args := [d] }
  | _ => none }
def FnExactNameOkWrongFalsely : Prop := fnExactNameOkRow.holds Try.pinned (OpenSpec.ofChange fnExactNameOkWrong)

/-- 'laws.FnExactJoined': WHATEVER THE INPUT: true; the input reads as it did. -/
def fnExactJoinedSpec : ChangeSpec := { name := "fnExactJoined", fn := fun _ => fun
  | [d1, d2] => { results := [.lit (.bool true)], args := [d1, d2] }
  | _ => none }
def fnExactJoinedRow : OpenClaim := { program := "ytjiboekeeafpoaa", sum := "ca7b0dd083762466561fc3b05ec0e38e0f05378bbf5cba86c844c79313cf9457", func := "loop.example/g00501/laws.FnExactJoined", spec := "fnExactJoined", inPlace := ["internal/abi.NoEscape", "internal/bytealg.MakeNoZero"], apart := false }
def FnExactJoinedSaid : Prop := fnExactJoinedRow.holds Try.pinned (OpenSpec.ofChange fnExactJoinedSpec)

/-- ITS FALSE NEIGHBOUR: 'it returns false'. Refute it at one input. -/
def fnExactJoinedWrong : ChangeSpec := { name := "fnExactJoined", fn := fun _ => fun
  | [d1, d2] => { results := [.lit (.bool false)], args := [d1, d2] }
  | _ => none }
def FnExactJoinedWrongFalsely : Prop := fnExactJoinedRow.holds Try.pinned (OpenSpec.ofChange fnExactJoinedWrong)

/-- 'laws.FnExactFlagsText': WHATEVER THE INPUT: true; the input reads as it did. -/
def fnExactFlagsTextSpec : ChangeSpec := { name := "fnExactFlagsText", fn := fun _ => fun
  | [d] => { results := [.lit (.bool true)], args := [d] }
  | _ => none }
def fnExactFlagsTextRow : OpenClaim := { program := "ytjiboekeeafpoaa", sum := "ca7b0dd083762466561fc3b05ec0e38e0f05378bbf5cba86c844c79313cf9457", func := "loop.example/g00501/laws.FnExactFlagsText", spec := "fnExactFlagsText", inPlace := ["internal/abi.NoEscape", "internal/bytealg.MakeNoZero"], apart := false }
def FnExactFlagsTextSaid : Prop := fnExactFlagsTextRow.holds Try.pinned (OpenSpec.ofChange fnExactFlagsTextSpec)

/-- ITS FALSE NEIGHBOUR: 'it returns false'. Refute it at one input. -/
def fnExactFlagsTextWrong : ChangeSpec := { name := "fnExactFlagsText", fn := fun _ => fun
  | [d] => { results := [.lit (.bool false)], args := [d] }
  | _ => none }
def FnExactFlagsTextWrongFalsely : Prop := fnExactFlagsTextRow.holds Try.pinned (OpenSpec.ofChange fnExactFlagsTextWrong)

/- THE SECOND FORM. 'bulk': how many values and letters a reading holds, each counted each time it is reached (what is shared counts as often as it is met; a slice's spare places count too). A statement '..UptoSaid' is the law's where the arguments, and the package variables that the reading takes, are together of bulk at most 1048576: NARROWER than '..Said'. Prove '..Said' where nothing that the law and all that it calls make is longer than what came in: it says more and counts as full. Else prove '..UptoSaid'. A law counts once. -/
mutual
def uptoBulk {H : Type} : DataW H → Nat
  | .lit (.string bytes) => bytes.length + 1
  | .lit _ => 1
  | .nil => 1
  | .ptr d => uptoBulk d + 1
  | .slice elems spare => uptoBulkAll elems + uptoBulkAll spare + 1
  | .agg parts => uptoBulkAll parts + 1
  | .iface _ d => uptoBulk d + 1
  | .map entries => uptoBulkEntries entries + 1
  | .held _ => 1
def uptoBulkAll {H : Type} : List (DataW H) → Nat
  | [] => 0
  | d :: r => uptoBulk d + uptoBulkAll r
def uptoBulkEntries {H : Type} : List (Lit × DataW H) → Nat
  | [] => 0
  | x :: r => uptoBulkEntry x + uptoBulkEntries r
def uptoBulkEntry {H : Type} : Lit × DataW H → Nat
  | (.string bytes, d) => bytes.length + uptoBulk d + 1
  | (_, d) => uptoBulk d + 1
 end
def uptoSmall : (H : Type) → List (DataW H) → Bool := fun _ ds => decide (uptoBulkAll ds ≤ 1048576)
def OpenSpec.upto (s : _root_.Go.ChangeSpec) : _root_.Go.OpenSpec := { _root_.Go.OpenSpec.ofChange s with cond := some uptoSmall }

/-- 'laws.FnExactCommandOk', WHERE WHAT IT READS IS OF BULK AT MOST 1048576: true; the input reads as it did. -/
def fnExactCommandOkUptoRow : OpenClaim := { program := "ytjiboekeeafpoaa", sum := "ca7b0dd083762466561fc3b05ec0e38e0f05378bbf5cba86c844c79313cf9457", func := "loop.example/g00501/laws.FnExactCommandOk", spec := "fnExactCommandOk", inPlace := ["internal/bytealg.IndexByteString", "internal/bytealg.IndexString"], unfollowed := true, recurses := true, named := ["internal/bytealg.MaxLen"], apart := false, narrowed := true }
def FnExactCommandOkUptoSaid : Prop := fnExactCommandOkUptoRow.holds Try.pinned (OpenSpec.upto fnExactCommandOkSpec)

/-- 'laws.FnExactFilterTokens', WHERE WHAT IT READS IS OF BULK AT MOST 1048576: true; the input reads as it did. -/
def fnExactFilterTokensUptoRow : OpenClaim := { program := "ytjiboekeeafpoaa", sum := "ca7b0dd083762466561fc3b05ec0e38e0f05378bbf5cba86c844c79313cf9457", func := "loop.example/g00501/laws.FnExactFilterTokens", spec := "fnExactFilterTokens", inPlace := ["internal/bytealg.IndexByteString", "internal/bytealg.IndexString"], unfollowed := true, recurses := true, named := ["internal/bytealg.MaxLen"], apart := false, narrowed := true }
def FnExactFilterTokensUptoSaid : Prop := fnExactFilterTokensUptoRow.holds Try.pinned (OpenSpec.upto fnExactFilterTokensSpec)

/-- 'laws.FnExactSameCommand', WHERE WHAT IT READS IS OF BULK AT MOST 1048576: true; the input reads as it did. -/
def fnExactSameCommandUptoRow : OpenClaim := { program := "ytjiboekeeafpoaa", sum := "ca7b0dd083762466561fc3b05ec0e38e0f05378bbf5cba86c844c79313cf9457", func := "loop.example/g00501/laws.FnExactSameCommand", spec := "fnExactSameCommand", unfollowed := true, recurses := true, apart := false, narrowed := true }
def FnExactSameCommandUptoSaid : Prop := fnExactSameCommandUptoRow.holds Try.pinned (OpenSpec.upto fnExactSameCommandSpec)

/-- 'laws.FnExactSameFilter', WHERE WHAT IT READS IS OF BULK AT MOST 1048576: true; the input reads as it did. -/
def fnExactSameFilterUptoRow : OpenClaim := { program := "ytjiboekeeafpoaa", sum := "ca7b0dd083762466561fc3b05ec0e38e0f05378bbf5cba86c844c79313cf9457", func := "loop.example/g00501/laws.FnExactSameFilter", spec := "fnExactSameFilter", unfollowed := true, recurses := true, apart := false, narrowed := true }
def FnExactSameFilterUptoSaid : Prop := fnExactSameFilterUptoRow.holds Try.pinned (OpenSpec.upto fnExactSameFilterSpec)

/-- 'laws.FnExactFilterOk', WHERE WHAT IT READS IS OF BULK AT MOST 1048576: true; the input reads as it did. -/
def fnExactFilterOkUptoRow : OpenClaim := { program := "ytjiboekeeafpoaa", sum := "ca7b0dd083762466561fc3b05ec0e38e0f05378bbf5cba86c844c79313cf9457", func := "loop.example/g00501/laws.FnExactFilterOk", spec := "fnExactFilterOk", inPlace := ["internal/bytealg.IndexByteString", "internal/bytealg.IndexString"], unfollowed := true, recurses := true, named := ["internal/bytealg.MaxLen"], apart := false, narrowed := true }
def FnExactFilterOkUptoSaid : Prop := fnExactFilterOkUptoRow.holds Try.pinned (OpenSpec.upto fnExactFilterOkSpec)

/-- 'laws.FnExactScopeOk', WHERE WHAT IT READS IS OF BULK AT MOST 1048576: true; the input reads as it did. -/
def fnExactScopeOkUptoRow : OpenClaim := { program := "ytjiboekeeafpoaa", sum := "ca7b0dd083762466561fc3b05ec0e38e0f05378bbf5cba86c844c79313cf9457", func := "loop.example/g00501/laws.FnExactScopeOk", spec := "fnExactScopeOk", inPlace := ["internal/bytealg.IndexByteString", "internal/bytealg.IndexString"], named := ["internal/bytealg.MaxLen"], apart := false, narrowed := true }
def FnExactScopeOkUptoSaid : Prop := fnExactScopeOkUptoRow.holds Try.pinned (OpenSpec.upto fnExactScopeOkSpec)

/-- 'laws.FnExactNameOk', WHERE WHAT IT READS IS OF BULK AT MOST 1048576: true; the input reads as it did. -/
def fnExactNameOkUptoRow : OpenClaim := { program := "ytjiboekeeafpoaa", sum := "ca7b0dd083762466561fc3b05ec0e38e0f05378bbf5cba86c844c79313cf9457", func := "loop.example/g00501/laws.FnExactNameOk", spec := "fnExactNameOk", inPlace := ["internal/bytealg.IndexByteString", "internal/bytealg.IndexString"], named := ["internal/bytealg.MaxLen"], apart := false, narrowed := true }
def FnExactNameOkUptoSaid : Prop := fnExactNameOkUptoRow.holds Try.pinned (OpenSpec.upto fnExactNameOkSpec)

/-- 'laws.FnExactJoined', WHERE WHAT IT READS IS OF BULK AT MOST 1048576: true; the input reads as it did. -/
def fnExactJoinedUptoRow : OpenClaim := { program := "ytjiboekeeafpoaa", sum := "ca7b0dd083762466561fc3b05ec0e38e0f05378bbf5cba86c844c79313cf9457", func := "loop.example/g00501/laws.FnExactJoined", spec := "fnExactJoined", inPlace := ["internal/abi.NoEscape", "internal/bytealg.MakeNoZero"], apart := false, narrowed := true }
def FnExactJoinedUptoSaid : Prop := fnExactJoinedUptoRow.holds Try.pinned (OpenSpec.upto fnExactJoinedSpec)

/-- 'laws.FnExactFlagsText', WHERE WHAT IT READS IS OF BULK AT MOST 1048576: true; the input reads as it did. -/
def fnExactFlagsTextUptoRow : OpenClaim := { program := "ytjiboekeeafpoaa", sum := "ca7b0dd083762466561fc3b05ec0e38e0f05378bbf5cba86c844c79313cf9457", func := "loop.example/g00501/laws.FnExactFlagsText", spec := "fnExactFlagsText", inPlace := ["internal/abi.NoEscape", "internal/bytealg.MakeNoZero"], apart := false, narrowed := true }
def FnExactFlagsTextUptoSaid : Prop := fnExactFlagsTextUptoRow.holds Try.pinned (OpenSpec.upto fnExactFlagsTextSpec)

end Rows
end Go.Proofs.Ytjiboekeeafpoaa
