/-
  No cell of these rows narrows 'for every input' (looked for: loops, veiled, ifaces, maps, wideKeys, modest, calm, conditions, laid).
  DERIVED. THE GIVEN ROWS OF THIS SEAT. 12 by the template 'for every input the law returns true; each argument reads behind the call as it read before'; 0 by the template 'total and deterministic' (their statements: YtmkhmgompajdaaaTotals.lean).
  GIVEN WITH THE SEED: the statements are not yours to turn. If you find one false, say at which input.
  Laid BY PROGRAM, IN A SANDBOX (cutbox-rows.mjs): the forced cells as the released guide's own fill.sh prints them over the translation d830fdff6b0b55d8… (all of the seat's roots in one cut). By AI agents, Wed Nov 11 2026. No macro, syntax, notation, axiom, sorry.
-/
import Derived.Test.YtmkhmgompajdaaaChecked
import GoSem.Claim
import GoSem.ClaimJoined
import GoSem.ClaimMapViews
import Derived.JoinedTies
import Derived.KernelRfl
namespace Go.Proofs.Ytmkhmgompajdaaa
/- THE CELL 'sum', in the pinned program and in every row, IS THE sha256 OF THE DUMP (.gsa) THAT YtmkhmgompajdaaaProg.lean LOADS. Nothing in Lean hashes anything: it is a label: what it is worth is what the hold of that sum in a sandbox is worth. -/
noncomputable def Try.pinned : Pinned := { name := "ytmkhmgompajdaaa", sum := "d830fdff6b0b55d8ba518f72b9f5891344c167fa17c2719833c8a9e9105760e2", checked := Try.checked }
namespace Rows
def none {H : Type} : Left H := { results := [], args := [] }

/-- 'laws.FnExactBoxOk': WHATEVER THE INPUT: true; the input reads as it did. -/
def fnExactBoxOkSpec : ChangeSpec := { name := "fnExactBoxOk", fn := fun _ => fun
  | [d] => { results := [.lit (.bool true)], args := [d] }
  | _ => none }
def fnExactBoxOkRow : OpenClaim := { program := "ytmkhmgompajdaaa", sum := "d830fdff6b0b55d8ba518f72b9f5891344c167fa17c2719833c8a9e9105760e2", func := "loop.example/g00501/laws.FnExactBoxOk", spec := "fnExactBoxOk", inPlace := ["internal/bytealg.IndexByteString", "internal/bytealg.IndexString"], named := ["internal/bytealg.MaxLen"], apart := false }
def FnExactBoxOkSaid : Prop := fnExactBoxOkRow.holds Try.pinned (OpenSpec.ofChange fnExactBoxOkSpec)

/-- ITS FALSE NEIGHBOUR: 'it returns false'. Refute it at one input. -/
def fnExactBoxOkWrong : ChangeSpec := { name := "fnExactBoxOk", fn := fun _ => fun
  | [d] => { results := [.lit (.bool false)], args := [d] }
  | _ => none }
def FnExactBoxOkWrongFalsely : Prop := fnExactBoxOkRow.holds Try.pinned (OpenSpec.ofChange fnExactBoxOkWrong)

/-- 'laws.FnExactBoxesOk': WHATEVER THE INPUT: true; the input reads as it did. -/
def fnExactBoxesOkSpec : ChangeSpec := { name := "fnExactBoxesOk", fn := fun _ => fun
  | [d] => { results := [.lit (.bool true)], args := [d] }
  | _ => none }
def fnExactBoxesOkRow : OpenClaim := { program := "ytmkhmgompajdaaa", sum := "d830fdff6b0b55d8ba518f72b9f5891344c167fa17c2719833c8a9e9105760e2", func := "loop.example/g00501/laws.FnExactBoxesOk", spec := "fnExactBoxesOk", inPlace := ["internal/bytealg.IndexByteString", "internal/bytealg.IndexString"], unfollowed := true, recurses := true, named := ["internal/bytealg.MaxLen"], apart := false }
def FnExactBoxesOkSaid : Prop := fnExactBoxesOkRow.holds Try.pinned (OpenSpec.ofChange fnExactBoxesOkSpec)

/-- ITS FALSE NEIGHBOUR: 'it returns false'. Refute it at one input. -/
def fnExactBoxesOkWrong : ChangeSpec := { name := "fnExactBoxesOk", fn := fun _ => fun
  | [d] => { results := [.lit (.bool false)], args := [d] }
  | _ => none }
def FnExactBoxesOkWrongFalsely : Prop := fnExactBoxesOkRow.holds Try.pinned (OpenSpec.ofChange fnExactBoxesOkWrong)

/-- 'laws.FnBoxes': WHATEVER THE INPUT: true; the input reads as it did. -/
def fnBoxesSpec : ChangeSpec := { name := "fnBoxes", fn := fun _ => fun
  | [d] => { results := [.lit (.bool true)], args := [d] }
  | _ => none }
def fnBoxesRow : OpenClaim := { program := "ytmkhmgompajdaaa", sum := "d830fdff6b0b55d8ba518f72b9f5891344c167fa17c2719833c8a9e9105760e2", func := "loop.example/g00501/laws.FnBoxes", spec := "fnBoxes", inPlace := ["internal/bytealg.IndexByteString", "internal/bytealg.IndexString"], unfollowed := true, recurses := true, named := ["internal/bytealg.MaxLen"], apart := false }
def FnBoxesSaid : Prop := fnBoxesRow.holds Try.pinned (OpenSpec.ofChange fnBoxesSpec)

/-- ITS FALSE NEIGHBOUR: 'it returns false'. Refute it at one input. -/
def fnBoxesWrong : ChangeSpec := { name := "fnBoxes", fn := fun _ => fun
  | [d] => { results := [.lit (.bool false)], args := [d] }
  | _ => none }
def FnBoxesWrongFalsely : Prop := fnBoxesRow.holds Try.pinned (OpenSpec.ofChange fnBoxesWrong)

/-- 'laws.FnExactPlaceOf': WHATEVER THE INPUT: true; the input reads as it did. -/
def fnExactPlaceOfSpec : ChangeSpec := { name := "fnExactPlaceOf", fn := fun _ => fun
  | [d1, d2] => { results := [.lit (.bool true)], args := [d1, d2] }
  | _ => none }
def fnExactPlaceOfRow : OpenClaim := { program := "ytmkhmgompajdaaa", sum := "d830fdff6b0b55d8ba518f72b9f5891344c167fa17c2719833c8a9e9105760e2", func := "loop.example/g00501/laws.FnExactPlaceOf", spec := "fnExactPlaceOf", unfollowed := true, recurses := true, apart := false }
def FnExactPlaceOfSaid : Prop := fnExactPlaceOfRow.holds Try.pinned (OpenSpec.ofChange fnExactPlaceOfSpec)

/-- ITS FALSE NEIGHBOUR: 'it returns false'. Refute it at one input. -/
def fnExactPlaceOfWrong : ChangeSpec := { name := "fnExactPlaceOf", fn := fun _ => fun
  | [d1, d2] => { results := [.lit (.bool false)], args := [d1, d2] }
  | _ => none }
def FnExactPlaceOfWrongFalsely : Prop := fnExactPlaceOfRow.holds Try.pinned (OpenSpec.ofChange fnExactPlaceOfWrong)

/-- 'laws.FnExactUidsOf': WHATEVER THE INPUT: true; the input reads as it did. -/
def fnExactUidsOfSpec : ChangeSpec := { name := "fnExactUidsOf", fn := fun _ => fun
  | [d] => { results := [.lit (.bool true)], args := [d] }
  | _ => none }
def fnExactUidsOfRow : OpenClaim := { program := "ytmkhmgompajdaaa", sum := "d830fdff6b0b55d8ba518f72b9f5891344c167fa17c2719833c8a9e9105760e2", func := "loop.example/g00501/laws.FnExactUidsOf", spec := "fnExactUidsOf", apart := false }
def FnExactUidsOfSaid : Prop := fnExactUidsOfRow.holds Try.pinned (OpenSpec.ofChange fnExactUidsOfSpec)

/-- ITS FALSE NEIGHBOUR: 'it returns false'. Refute it at one input. -/
def fnExactUidsOfWrong : ChangeSpec := { name := "fnExactUidsOf", fn := fun _ => fun
  | [d] => { results := [.lit (.bool false)], args := [d] }
  | _ => none }
def FnExactUidsOfWrongFalsely : Prop := fnExactUidsOfRow.holds Try.pinned (OpenSpec.ofChange fnExactUidsOfWrong)

/-- 'laws.FnExactSameBox': WHATEVER THE INPUT: true; the input reads as it did. -/
def fnExactSameBoxSpec : ChangeSpec := { name := "fnExactSameBox", fn := fun _ => fun
  | [d1, d2] => { results := [.lit (.bool true)], args := [d1, d2] }
  | _ => none }
def fnExactSameBoxRow : OpenClaim := { program := "ytmkhmgompajdaaa", sum := "d830fdff6b0b55d8ba518f72b9f5891344c167fa17c2719833c8a9e9105760e2", func := "loop.example/g00501/laws.FnExactSameBox", spec := "fnExactSameBox", apart := false }
def FnExactSameBoxSaid : Prop := fnExactSameBoxRow.holds Try.pinned (OpenSpec.ofChange fnExactSameBoxSpec)

/-- ITS FALSE NEIGHBOUR: 'it returns false'. Refute it at one input. -/
def fnExactSameBoxWrong : ChangeSpec := { name := "fnExactSameBox", fn := fun _ => fun
  | [d1, d2] => { results := [.lit (.bool false)], args := [d1, d2] }
  | _ => none }
def FnExactSameBoxWrongFalsely : Prop := fnExactSameBoxRow.holds Try.pinned (OpenSpec.ofChange fnExactSameBoxWrong)

/-- 'laws.FnExactSameBoxes': WHATEVER THE INPUT: true; the input reads as it did. -/
def fnExactSameBoxesSpec : ChangeSpec := { name := "fnExactSameBoxes", fn := fun _ => fun
  | [d1, d2] => { results := [.lit (.bool true)], args := [d1, d2] }
  | _ => none }
def fnExactSameBoxesRow : OpenClaim := { program := "ytmkhmgompajdaaa", sum := "d830fdff6b0b55d8ba518f72b9f5891344c167fa17c2719833c8a9e9105760e2", func := "loop.example/g00501/laws.FnExactSameBoxes", spec := "fnExactSameBoxes", unfollowed := true, recurses := true, apart := false }
def FnExactSameBoxesSaid : Prop := fnExactSameBoxesRow.holds Try.pinned (OpenSpec.ofChange fnExactSameBoxesSpec)

/-- ITS FALSE NEIGHBOUR: 'it returns false'. Refute it at one input. -/
def fnExactSameBoxesWrong : ChangeSpec := { name := "fnExactSameBoxes", fn := fun _ => fun
  | [d1, d2] => { results := [.lit (.bool false)], args := [d1, d2] }
  | _ => none }
def FnExactSameBoxesWrongFalsely : Prop := fnExactSameBoxesRow.holds Try.pinned (OpenSpec.ofChange fnExactSameBoxesWrong)

/-- 'laws.FnExactBoxNamed': WHATEVER THE INPUT: true; the input reads as it did. -/
def fnExactBoxNamedSpec : ChangeSpec := { name := "fnExactBoxNamed", fn := fun _ => fun
  | [d1, d2] => { results := [.lit (.bool true)], args := [d1, d2] }
  | _ => none }
def fnExactBoxNamedRow : OpenClaim := { program := "ytmkhmgompajdaaa", sum := "d830fdff6b0b55d8ba518f72b9f5891344c167fa17c2719833c8a9e9105760e2", func := "loop.example/g00501/laws.FnExactBoxNamed", spec := "fnExactBoxNamed", unfollowed := true, recurses := true, apart := false }
def FnExactBoxNamedSaid : Prop := fnExactBoxNamedRow.holds Try.pinned (OpenSpec.ofChange fnExactBoxNamedSpec)

/-- ITS FALSE NEIGHBOUR: 'it returns false'. Refute it at one input. -/
def fnExactBoxNamedWrong : ChangeSpec := { name := "fnExactBoxNamed", fn := fun _ => fun
  | [d1, d2] => { results := [.lit (.bool false)], args := [d1, d2] }
  | _ => none }
def FnExactBoxNamedWrongFalsely : Prop := fnExactBoxNamedRow.holds Try.pinned (OpenSpec.ofChange fnExactBoxNamedWrong)

/-- 'laws.FnExactBoxWith': WHATEVER THE INPUT: true; the input reads as it did. -/
def fnExactBoxWithSpec : ChangeSpec := { name := "fnExactBoxWith", fn := fun _ => fun
  | [d1, d2] => { results := [.lit (.bool true)], args := [d1, d2] }
  | _ => none }
def fnExactBoxWithRow : OpenClaim := { program := "ytmkhmgompajdaaa", sum := "d830fdff6b0b55d8ba518f72b9f5891344c167fa17c2719833c8a9e9105760e2", func := "loop.example/g00501/laws.FnExactBoxWith", spec := "fnExactBoxWith", unfollowed := true, recurses := true, apart := false }
def FnExactBoxWithSaid : Prop := fnExactBoxWithRow.holds Try.pinned (OpenSpec.ofChange fnExactBoxWithSpec)

/-- ITS FALSE NEIGHBOUR: 'it returns false'. Refute it at one input. -/
def fnExactBoxWithWrong : ChangeSpec := { name := "fnExactBoxWith", fn := fun _ => fun
  | [d1, d2] => { results := [.lit (.bool false)], args := [d1, d2] }
  | _ => none }
def FnExactBoxWithWrongFalsely : Prop := fnExactBoxWithRow.holds Try.pinned (OpenSpec.ofChange fnExactBoxWithWrong)

/-- 'laws.FnExactCovers': WHATEVER THE INPUT: true; the input reads as it did. -/
def fnExactCoversSpec : ChangeSpec := { name := "fnExactCovers", fn := fun _ => fun
  | [d1, d2, d3] => { results := [.lit (.bool true)], args := [d1, d2, d3] }
  | _ => none }
def fnExactCoversRow : OpenClaim := { program := "ytmkhmgompajdaaa", sum := "d830fdff6b0b55d8ba518f72b9f5891344c167fa17c2719833c8a9e9105760e2", func := "loop.example/g00501/laws.FnExactCovers", spec := "fnExactCovers", inPlace := ["internal/bytealg.IndexByteString", "internal/bytealg.IndexString"], unfollowed := true, recurses := true, named := ["internal/bytealg.MaxLen"], apart := false }
def FnExactCoversSaid : Prop := fnExactCoversRow.holds Try.pinned (OpenSpec.ofChange fnExactCoversSpec)

/-- ITS FALSE NEIGHBOUR: 'it returns false'. Refute it at one input. -/
def fnExactCoversWrong : ChangeSpec := { name := "fnExactCovers", fn := fun _ => fun
  | [d1, d2, d3] => { results := [.lit (.bool false)], args := [d1, d2, d3] }
  | _ => none }
def FnExactCoversWrongFalsely : Prop := fnExactCoversRow.holds Try.pinned (OpenSpec.ofChange fnExactCoversWrong)

/-- 'laws.FnExactAdmits': WHATEVER THE INPUT: true; the input reads as it did. -/
def fnExactAdmitsSpec : ChangeSpec := { name := "fnExactAdmits", fn := fun _ => fun
  | [d1, d2, d3, d4] => { results := [.lit (.bool true)], args := [d1, d2, d3, d4] }
  | _ => none }
def fnExactAdmitsRow : OpenClaim := { program := "ytmkhmgompajdaaa", sum := "d830fdff6b0b55d8ba518f72b9f5891344c167fa17c2719833c8a9e9105760e2", func := "loop.example/g00501/laws.FnExactAdmits", spec := "fnExactAdmits", inPlace := ["internal/bytealg.IndexByteString", "internal/bytealg.IndexString"], unfollowed := true, recurses := true, named := ["internal/bytealg.MaxLen"], apart := false }
def FnExactAdmitsSaid : Prop := fnExactAdmitsRow.holds Try.pinned (OpenSpec.ofChange fnExactAdmitsSpec)

/-- ITS FALSE NEIGHBOUR: 'it returns false'. Refute it at one input. -/
def fnExactAdmitsWrong : ChangeSpec := { name := "fnExactAdmits", fn := fun _ => fun
  | [d1, d2, d3, d4] => { results := [.lit (.bool false)], args := [d1, d2, d3, d4] }
  | _ => none }
def FnExactAdmitsWrongFalsely : Prop := fnExactAdmitsRow.holds Try.pinned (OpenSpec.ofChange fnExactAdmitsWrong)

/-- 'laws.FnAdmits': WHATEVER THE INPUT: true; the input reads as it did. -/
def fnAdmitsSpec : ChangeSpec := { name := "fnAdmits", fn := fun _ => fun
  | [d] => { results := [.lit (.bool true)], args := [d] }
  | _ => none }
def fnAdmitsRow : OpenClaim := { program := "ytmkhmgompajdaaa", sum := "d830fdff6b0b55d8ba518f72b9f5891344c167fa17c2719833c8a9e9105760e2", func := "loop.example/g00501/laws.FnAdmits", spec := "fnAdmits", inPlace := ["internal/bytealg.IndexByteString", "internal/bytealg.IndexString"], unfollowed := true, recurses := true, named := ["internal/bytealg.MaxLen"], apart := false }
def FnAdmitsSaid : Prop := fnAdmitsRow.holds Try.pinned (OpenSpec.ofChange fnAdmitsSpec)

/-- ITS FALSE NEIGHBOUR: 'it returns false'. Refute it at one input. -/
def fnAdmitsWrong : ChangeSpec := { name := "fnAdmits", fn := fun _ => fun
  | [d] => { results := [.lit (.bool false)], args := [d] }
  | _ => none }
def FnAdmitsWrongFalsely : Prop := fnAdmitsRow.holds Try.pinned (OpenSpec.ofChange fnAdmitsWrong)

/- THE SECOND FORM. 'bulk': how many values and letters a reading holds, each counted each time it is reached (what is shared counts as often as it is met; a slice's spare places count too). A statement '..UptoSaid' is the law's where the arguments, and the package variables that the reading takes, are together of bulk at most 1048576: NARROWER than '..Said'. Prove '..Said' where nothing that the law and all that it calls make is longer than what came in: it says more and counts as full. Else prove '..UptoSaid'. A law counts once. -/
mutual
def uptoBulk {H : Type} : DataW H → Nat
  | .lit (.string bytes) => bytes.length + 1
  | .lit _ => 1
  | .nil => 1
  | .ptr d => uptoBulk d + 1
  | .slice elems spare => uptoBulkAll elems + uptoBulkAll spare + 1
  | .agg parts => uptoBulkAll parts + 1
  | .iface _ d => uptoBulk d + 1
  | .map entries => uptoBulkEntries entries + 1
  | .held _ => 1
def uptoBulkAll {H : Type} : List (DataW H) → Nat
  | [] => 0
  | d :: r => uptoBulk d + uptoBulkAll r
def uptoBulkEntries {H : Type} : List (Lit × DataW H) → Nat
  | [] => 0
  | x :: r => uptoBulkEntry x + uptoBulkEntries r
def uptoBulkEntry {H : Type} : Lit × DataW H → Nat
  | (.string bytes, d) => bytes.length + uptoBulk d + 1
  | (_, d) => uptoBulk d + 1
 end
def uptoSmall : (H : Type) → List (DataW H) → Bool := fun _ ds => decide (uptoBulkAll ds ≤ 1048576)
def OpenSpec.upto (s : _root_.Go.ChangeSpec) : _root_.Go.OpenSpec := { _root_.Go.OpenSpec.ofChange s with cond := some uptoSmall }

/-- 'laws.FnExactBoxOk', WHERE WHAT IT READS IS OF BULK AT MOST 1048576: true; the input reads as it did. -/
def fnExactBoxOkUptoRow : OpenClaim := { program := "ytmkhmgompajdaaa", sum := "d830fdff6b0b55d8ba518f72b9f5891344c167fa17c2719833c8a9e9105760e2", func := "loop.example/g00501/laws.FnExactBoxOk", spec := "fnExactBoxOk", inPlace := ["internal/bytealg.IndexByteString", "internal/bytealg.IndexString"], named := ["internal/bytealg.MaxLen"], apart := false, narrowed := true }
def FnExactBoxOkUptoSaid : Prop := fnExactBoxOkUptoRow.holds Try.pinned (OpenSpec.upto fnExactBoxOkSpec)

/-- 'laws.FnExactBoxesOk', WHERE WHAT IT READS IS OF BULK AT MOST 1048576: true; the input reads as it did. -/
def fnExactBoxesOkUptoRow : OpenClaim := { program := "ytmkhmgompajdaaa", sum := "d830fdff6b0b55d8ba518f72b9f5891344c167fa17c2719833c8a9e9105760e2", func := "loop.example/g00501/laws.FnExactBoxesOk", spec := "fnExactBoxesOk", inPlace := ["internal/bytealg.IndexByteString", "internal/bytealg.IndexString"], unfollowed := true, recurses := true, named := ["internal/bytealg.MaxLen"], apart := false, narrowed := true }
def FnExactBoxesOkUptoSaid : Prop := fnExactBoxesOkUptoRow.holds Try.pinned (OpenSpec.upto fnExactBoxesOkSpec)

/-- 'laws.FnBoxes', WHERE WHAT IT READS IS OF BULK AT MOST 1048576: true; the input reads as it did. -/
def fnBoxesUptoRow : OpenClaim := { program := "ytmkhmgompajdaaa", sum := "d830fdff6b0b55d8ba518f72b9f5891344c167fa17c2719833c8a9e9105760e2", func := "loop.example/g00501/laws.FnBoxes", spec := "fnBoxes", inPlace := ["internal/bytealg.IndexByteString", "internal/bytealg.IndexString"], unfollowed := true, recurses := true, named := ["internal/bytealg.MaxLen"], apart := false, narrowed := true }
def FnBoxesUptoSaid : Prop := fnBoxesUptoRow.holds Try.pinned (OpenSpec.upto fnBoxesSpec)

/-- 'laws.FnExactPlaceOf', WHERE WHAT IT READS IS OF BULK AT MOST 1048576: true; the input reads as it did. -/
def fnExactPlaceOfUptoRow : OpenClaim := { program := "ytmkhmgompajdaaa", sum := "d830fdff6b0b55d8ba518f72b9f5891344c167fa17c2719833c8a9e9105760e2", func := "loop.example/g00501/laws.FnExactPlaceOf", spec := "fnExactPlaceOf", unfollowed := true, recurses := true, apart := false, narrowed := true }
def FnExactPlaceOfUptoSaid : Prop := fnExactPlaceOfUptoRow.holds Try.pinned (OpenSpec.upto fnExactPlaceOfSpec)

/-- 'laws.FnExactUidsOf', WHERE WHAT IT READS IS OF BULK AT MOST 1048576: true; the input reads as it did. -/
def fnExactUidsOfUptoRow : OpenClaim := { program := "ytmkhmgompajdaaa", sum := "d830fdff6b0b55d8ba518f72b9f5891344c167fa17c2719833c8a9e9105760e2", func := "loop.example/g00501/laws.FnExactUidsOf", spec := "fnExactUidsOf", apart := false, narrowed := true }
def FnExactUidsOfUptoSaid : Prop := fnExactUidsOfUptoRow.holds Try.pinned (OpenSpec.upto fnExactUidsOfSpec)

/-- 'laws.FnExactSameBox', WHERE WHAT IT READS IS OF BULK AT MOST 1048576: true; the input reads as it did. -/
def fnExactSameBoxUptoRow : OpenClaim := { program := "ytmkhmgompajdaaa", sum := "d830fdff6b0b55d8ba518f72b9f5891344c167fa17c2719833c8a9e9105760e2", func := "loop.example/g00501/laws.FnExactSameBox", spec := "fnExactSameBox", apart := false, narrowed := true }
def FnExactSameBoxUptoSaid : Prop := fnExactSameBoxUptoRow.holds Try.pinned (OpenSpec.upto fnExactSameBoxSpec)

/-- 'laws.FnExactSameBoxes', WHERE WHAT IT READS IS OF BULK AT MOST 1048576: true; the input reads as it did. -/
def fnExactSameBoxesUptoRow : OpenClaim := { program := "ytmkhmgompajdaaa", sum := "d830fdff6b0b55d8ba518f72b9f5891344c167fa17c2719833c8a9e9105760e2", func := "loop.example/g00501/laws.FnExactSameBoxes", spec := "fnExactSameBoxes", unfollowed := true, recurses := true, apart := false, narrowed := true }
def FnExactSameBoxesUptoSaid : Prop := fnExactSameBoxesUptoRow.holds Try.pinned (OpenSpec.upto fnExactSameBoxesSpec)

/-- 'laws.FnExactBoxNamed', WHERE WHAT IT READS IS OF BULK AT MOST 1048576: true; the input reads as it did. -/
def fnExactBoxNamedUptoRow : OpenClaim := { program := "ytmkhmgompajdaaa", sum := "d830fdff6b0b55d8ba518f72b9f5891344c167fa17c2719833c8a9e9105760e2", func := "loop.example/g00501/laws.FnExactBoxNamed", spec := "fnExactBoxNamed", unfollowed := true, recurses := true, apart := false, narrowed := true }
def FnExactBoxNamedUptoSaid : Prop := fnExactBoxNamedUptoRow.holds Try.pinned (OpenSpec.upto fnExactBoxNamedSpec)

/-- 'laws.FnExactBoxWith', WHERE WHAT IT READS IS OF BULK AT MOST 1048576: true; the input reads as it did. -/
def fnExactBoxWithUptoRow : OpenClaim := { program := "ytmkhmgompajdaaa", sum := "d830fdff6b0b55d8ba518f72b9f5891344c167fa17c2719833c8a9e9105760e2", func := "loop.example/g00501/laws.FnExactBoxWith", spec := "fnExactBoxWith", unfollowed := true, recurses := true, apart := false, narrowed := true }
def FnExactBoxWithUptoSaid : Prop := fnExactBoxWithUptoRow.holds Try.pinned (OpenSpec.upto fnExactBoxWithSpec)

/-- 'laws.FnExactCovers', WHERE WHAT IT READS IS OF BULK AT MOST 1048576: true; the input reads as it did. -/
def fnExactCoversUptoRow : OpenClaim := { program := "ytmkhmgompajdaaa", sum := "d830fdff6b0b55d8ba518f72b9f5891344c167fa17c2719833c8a9e9105760e2", func := "loop.example/g00501/laws.FnExactCovers", spec := "fnExactCovers", inPlace := ["internal/bytealg.IndexByteString", "internal/bytealg.IndexString"], unfollowed := true, recurses := true, named := ["internal/bytealg.MaxLen"], apart := false, narrowed := true }
def FnExactCoversUptoSaid : Prop := fnExactCoversUptoRow.holds Try.pinned (OpenSpec.upto fnExactCoversSpec)

/-- 'laws.FnExactAdmits', WHERE WHAT IT READS IS OF BULK AT MOST 1048576: true; the input reads as it did. -/
def fnExactAdmitsUptoRow : OpenClaim := { program := "ytmkhmgompajdaaa", sum := "d830fdff6b0b55d8ba518f72b9f5891344c167fa17c2719833c8a9e9105760e2", func := "loop.example/g00501/laws.FnExactAdmits", spec := "fnExactAdmits", inPlace := ["internal/bytealg.IndexByteString", "internal/bytealg.IndexString"], unfollowed := true, recurses := true, named := ["internal/bytealg.MaxLen"], apart := false, narrowed := true }
def FnExactAdmitsUptoSaid : Prop := fnExactAdmitsUptoRow.holds Try.pinned (OpenSpec.upto fnExactAdmitsSpec)

/-- 'laws.FnAdmits', WHERE WHAT IT READS IS OF BULK AT MOST 1048576: true; the input reads as it did. -/
def fnAdmitsUptoRow : OpenClaim := { program := "ytmkhmgompajdaaa", sum := "d830fdff6b0b55d8ba518f72b9f5891344c167fa17c2719833c8a9e9105760e2", func := "loop.example/g00501/laws.FnAdmits", spec := "fnAdmits", inPlace := ["internal/bytealg.IndexByteString", "internal/bytealg.IndexString"], unfollowed := true, recurses := true, named := ["internal/bytealg.MaxLen"], apart := false, narrowed := true }
def FnAdmitsUptoSaid : Prop := fnAdmitsUptoRow.holds Try.pinned (OpenSpec.upto fnAdmitsSpec)

end Rows
end Go.Proofs.Ytmkhmgompajdaaa
