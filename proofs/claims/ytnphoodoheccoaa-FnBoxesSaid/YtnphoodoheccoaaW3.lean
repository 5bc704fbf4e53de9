/-
  Walks: what each function returns, and that it leaves what lay in memory as it was.
-/
import Derived.Test.YtnphoodoheccoaaProg
import Derived.Test.YtnphoodoheccoaaPlain
import Derived.Test.YtnphoodoheccoaaBase2
import Derived.Test.YtnphoodoheccoaaOpen2
import Derived.Test.YtnphoodoheccoaaShelf
import Derived.WalkKit
import Derived.WalkSpells
import Derived.WalkLawsBesides
import Derived.Lib.Hide
import Derived.Deep.LoopGhost
import Derived.Deep.QuietTactic
import Derived.BigQuiet
import Derived.Handy
import Derived.Deep.RegionHeld3
import Derived.StillTailTactics
import Derived.OpenShut
import Derived.ChangeSame
import Derived.Laws.StructEq

import Derived.Test.YtnphoodoheccoaaPlainT

import Derived.Test.YtnphoodoheccoaaW1

import Derived.Test.YtnphoodoheccoaaW2

namespace Go.Proofs.Ytnphoodoheccoaa
open Go.ChangeShapes Go.WideShapes Go.ChangeAt Go.RowKit Go.Deep
set_option linter.unusedVariables false
set_option linter.unusedSimpArgs false

/-- A mailbox that lies in memory. -/
def BoxIs (w : World) (x : Box) (h : Hd) : Prop := x.name.size ≤ maxLen ∧ Rd encMsg 3 w h.A h.n x.msgs ∧ h.n ≤ maxLen ∧ ∀ y ∈ x.msgs, y.Big
theorem BoxIs.below {w w' : World} {x : Box} {h : Hd} (i : BoxIs w x h) (hb : Below w.heap.size w w') : BoxIs w' x h := ⟨i.1, i.2.1.below hb, i.2.2⟩
/-- A mailbox of the call's own. -/
def BoxOwn (base : Nat) (w : World) (x : Box) (h : Hd) : Prop := x.name.size ≤ maxLen ∧ w.ownsRow base 62 3 (.slice h.A h.n h.c) h.n (x.msgs.flatMap encMsg) ∧ x.msgs.length = h.n ∧ h.n ≤ 1048576 ∧ ∀ y ∈ x.msgs, y.Big
theorem BoxOwn.below {base : Nat} {w w' : World} {x : Box} {h : Hd} (i : BoxOwn base w x h) (hb : Below w.heap.size w w') : BoxOwn base w' x h := ⟨i.1, own_below i.2.1 hb, i.2.2⟩
theorem BoxOwn.map {base : Nat} {w w' : World} {x : Box} {h : Hd} (i : BoxOwn base w x h) (f : w.ownsRow base 62 3 (.slice h.A h.n h.c) h.n (x.msgs.flatMap encMsg) → w'.ownsRow base 62 3 (.slice h.A h.n h.c) h.n (x.msgs.flatMap encMsg)) : BoxOwn base w' x h := ⟨i.1, f i.2.1, i.2.2⟩
theorem BoxOwn.mono {base base' : Nat} {w : World} {x : Box} {h : Hd} (i : BoxOwn base w x h) (hb : base' ≤ base) : BoxOwn base' w x h := ⟨i.1, own_mono i.2.1 hb, i.2.2⟩
theorem BoxOwn.is {base : Nat} {w : World} {x : Box} {h : Hd} (i : BoxOwn base w x h) : BoxIs w x h := ⟨i.1, Rd.of_own (enc := encMsg) (k := 3) (fun _ => rfl) i.2.1 i.2.2.1, by have := i.2.2.2.1; unfold maxLen; omega, i.2.2.2.2⟩

end Go.Proofs.Ytnphoodoheccoaa
