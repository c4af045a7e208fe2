/-
  No cell of these rows narrows 'for every input' (looked for: loops, veiled, ifaces, maps, wideKeys, modest, calm, conditions, laid).
  DERIVED. THE GIVEN ROWS OF THIS SEAT. 7 by the template 'for every input the law returns true; each argument reads behind the call as it read before'; 0 by the template 'total and deterministic' (their statements: YtlnnfijdldkpiaaTotals.lean).
  GIVEN WITH THE SEED: the statements are not yours to turn. If you find one false, say at which input.
  Laid BY PROGRAM, IN A SANDBOX (cutbox-rows.mjs): the forced cells as the released guide's own fill.sh prints them over the translation d5910dfdc1bb0a2f… (all of the seat's roots in one cut). By AI agents, Wed Nov 11 2026. No macro, syntax, notation, axiom, sorry.
-/
import Derived.Test.YtlnnfijdldkpiaaChecked
import GoSem.Claim
import GoSem.ClaimJoined
import GoSem.ClaimMapViews
import Derived.JoinedTies
import Derived.KernelRfl
namespace Go.Proofs.Ytlnnfijdldkpiaa
/- THE CELL 'sum', in the pinned program and in every row, IS THE sha256 OF THE DUMP (.gsa) THAT YtlnnfijdldkpiaaProg.lean LOADS. Nothing in Lean hashes anything: it is a label: what it is worth is what the hold of that sum in a sandbox is worth. -/
noncomputable def Try.pinned : Pinned := { name := "ytlnnfijdldkpiaa", sum := "d5910dfdc1bb0a2f65a2dacb4fb42a73566294af2c5360cbe73de2eee15f4303", checked := Try.checked }
namespace Rows
def none {H : Type} : Left H := { results := [], args := [] }

/-- 'quernlaw05.NodeKnown': WHATEVER THE INPUT: true; the input reads as it did. -/
def nodeKnownSpec : ChangeSpec := { name := "nodeKnown", fn := fun _ => fun
  | [] => { results := [.lit (.bool true)], args := [] }
  | _ => none }
def nodeKnownRow : OpenClaim := { program := "ytlnnfijdldkpiaa", sum := "d5910dfdc1bb0a2f65a2dacb4fb42a73566294af2c5360cbe73de2eee15f4303", func := "quern/quernlaw05.NodeKnown", spec := "nodeKnown", unfollowed := true, recurses := true, apart := false }
def NodeKnownSaid : Prop := nodeKnownRow.holds Try.pinned (OpenSpec.ofChange nodeKnownSpec)

/-- ITS FALSE NEIGHBOUR: 'it returns false'. Refute it at one input. -/
def nodeKnownWrong : ChangeSpec := { name := "nodeKnown", fn := fun _ => fun
  | [] => { results := [.lit (.bool false)], args := [] }
  | _ => none }
def NodeKnownWrongFalsely : Prop := nodeKnownRow.holds Try.pinned (OpenSpec.ofChange nodeKnownWrong)

/-- 'quernlaw05.NodeKeys': WHATEVER THE INPUT: true; the input reads as it did. -/
def nodeKeysSpec : ChangeSpec := { name := "nodeKeys", fn := fun _ => fun
  | [d1, d2] => { results := [.lit (.bool true)], args := [d1, d2] }
  | _ => none }
def nodeKeysRow : OpenClaim := { program := "ytlnnfijdldkpiaa", sum := "d5910dfdc1bb0a2f65a2dacb4fb42a73566294af2c5360cbe73de2eee15f4303", func := "quern/quernlaw05.NodeKeys", spec := "nodeKeys", unfollowed := true, recurses := true, apart := false }
def NodeKeysSaid : Prop := nodeKeysRow.holds Try.pinned (OpenSpec.ofChange nodeKeysSpec)

/-- ITS FALSE NEIGHBOUR: 'it returns false'. Refute it at one input. -/
def nodeKeysWrong : ChangeSpec := { name := "nodeKeys", fn := fun _ => fun
  | [d1, d2] => { results := [.lit (.bool false)], args := [d1, d2] }
  | _ => none }
def NodeKeysWrongFalsely : Prop := nodeKeysRow.holds Try.pinned (OpenSpec.ofChange nodeKeysWrong)

/-- 'quernlaw19.LongSizes': WHATEVER THE INPUT: true; the input reads as it did. -/
def longSizesSpec : ChangeSpec := { name := "longSizes", fn := fun _ => fun
  | [d1, d2] => { results := [.lit (.bool true)], args := [d1, d2] }
  | _ => none }
def longSizesRow : OpenClaim := { program := "ytlnnfijdldkpiaa", sum := "d5910dfdc1bb0a2f65a2dacb4fb42a73566294af2c5360cbe73de2eee15f4303", func := "quern/quernlaw19.LongSizes", spec := "longSizes", unfollowed := true, recurses := true, apart := false }
def LongSizesSaid : Prop := longSizesRow.holds Try.pinned (OpenSpec.ofChange longSizesSpec)

/-- ITS FALSE NEIGHBOUR: 'it returns false'. Refute it at one input. -/
def longSizesWrong : ChangeSpec := { name := "longSizes", fn := fun _ => fun
  | [d1, d2] => { results := [.lit (.bool false)], args := [d1, d2] }
  | _ => none }
def LongSizesWrongFalsely : Prop := longSizesRow.holds Try.pinned (OpenSpec.ofChange longSizesWrong)

/-- 'quernlaw05.NodeCuts': WHATEVER THE INPUT: true; the input reads as it did. -/
def nodeCutsSpec : ChangeSpec := { name := "nodeCuts", fn := fun _ => fun
  | [d1, d2, d3] => { results := [.lit (.bool true)], args := [d1, d2, d3] }
  | _ => none }
def nodeCutsRow : OpenClaim := { program := "ytlnnfijdldkpiaa", sum := "d5910dfdc1bb0a2f65a2dacb4fb42a73566294af2c5360cbe73de2eee15f4303", func := "quern/quernlaw05.NodeCuts", spec := "nodeCuts", unfollowed := true, recurses := true, apart := false }
def NodeCutsSaid : Prop := nodeCutsRow.holds Try.pinned (OpenSpec.ofChange nodeCutsSpec)

/-- ITS FALSE NEIGHBOUR: 'it returns false'. Refute it at one input. -/
def nodeCutsWrong : ChangeSpec := { name := "nodeCuts", fn := fun _ => fun
  | [d1, d2, d3] => { results := [.lit (.bool false)], args := [d1, d2, d3] }
  | _ => none }
def NodeCutsWrongFalsely : Prop := nodeCutsRow.holds Try.pinned (OpenSpec.ofChange nodeCutsWrong)

/-- 'quernlaw05.NodeNil': WHATEVER THE INPUT: true; the input reads as it did. -/
def nodeNilSpec : ChangeSpec := { name := "nodeNil", fn := fun _ => fun
  | [d1, d2] => { results := [.lit (.bool true)], args := [d1, d2] }
  | _ => none }
def nodeNilRow : OpenClaim := { program := "ytlnnfijdldkpiaa", sum := "d5910dfdc1bb0a2f65a2dacb4fb42a73566294af2c5360cbe73de2eee15f4303", func := "quern/quernlaw05.NodeNil", spec := "nodeNil", unfollowed := true, recurses := true, apart := false }
def NodeNilSaid : Prop := nodeNilRow.holds Try.pinned (OpenSpec.ofChange nodeNilSpec)

/-- ITS FALSE NEIGHBOUR: 'it returns false'. Refute it at one input. -/
def nodeNilWrong : ChangeSpec := { name := "nodeNil", fn := fun _ => fun
  | [d1, d2] => { results := [.lit (.bool false)], args := [d1, d2] }
  | _ => none }
def NodeNilWrongFalsely : Prop := nodeNilRow.holds Try.pinned (OpenSpec.ofChange nodeNilWrong)

/-- 'quernlaw19.LongNames': WHATEVER THE INPUT: true; the input reads as it did. -/
def longNamesSpec : ChangeSpec := { name := "longNames", fn := fun _ => fun
  | [] => { results := [.lit (.bool true)], args := [] }
  | _ => none }
def longNamesRow : OpenClaim := { program := "ytlnnfijdldkpiaa", sum := "d5910dfdc1bb0a2f65a2dacb4fb42a73566294af2c5360cbe73de2eee15f4303", func := "quern/quernlaw19.LongNames", spec := "longNames", unfollowed := true, recurses := true, apart := false }
def LongNamesSaid : Prop := longNamesRow.holds Try.pinned (OpenSpec.ofChange longNamesSpec)

/-- ITS FALSE NEIGHBOUR: 'it returns false'. Refute it at one input. -/
def longNamesWrong : ChangeSpec := { name := "longNames", fn := fun _ => fun
  | [] => { results := [.lit (.bool false)], args := [] }
  | _ => none }
def LongNamesWrongFalsely : Prop := longNamesRow.holds Try.pinned (OpenSpec.ofChange longNamesWrong)

/-- 'quernlaw07.XofNames': WHATEVER THE INPUT: true; the input reads as it did. -/
def xofNamesSpec : ChangeSpec := { name := "xofNames", fn := fun _ => fun
  | [] => { results := [.lit (.bool true)], args := [] }
  | _ => none }
def xofNamesRow : OpenClaim := { program := "ytlnnfijdldkpiaa", sum := "d5910dfdc1bb0a2f65a2dacb4fb42a73566294af2c5360cbe73de2eee15f4303", func := "quern/quernlaw07.XofNames", spec := "xofNames", unfollowed := true, recurses := true, apart := false }
def XofNamesSaid : Prop := xofNamesRow.holds Try.pinned (OpenSpec.ofChange xofNamesSpec)

/-- ITS FALSE NEIGHBOUR: 'it returns false'. Refute it at one input. -/
def xofNamesWrong : ChangeSpec := { name := "xofNames", fn := fun _ => fun
  | [] => { results := [.lit (.bool false)], args := [] }
  | _ => none }
def XofNamesWrongFalsely : Prop := xofNamesRow.holds Try.pinned (OpenSpec.ofChange xofNamesWrong)

/- THE SECOND FORM. 'bulk': how many values and letters a reading holds, each counted each time it is reached (what is shared counts as often as it is met; a slice's spare places count too). A statement '..UptoSaid' is the law's where the arguments, and the package variables that the reading takes, are together of bulk at most 1048576: NARROWER than '..Said'. Prove '..Said' where nothing that the law and all that it calls make is longer than what came in: it says more and counts as full. Else prove '..UptoSaid'. A law counts once. -/
mutual
def uptoBulk {H : Type} : DataW H → Nat
  | .lit (.string bytes) => bytes.length + 1
  | .lit _ => 1
  | .nil => 1
  | .ptr d => uptoBulk d + 1
  | .slice elems spare => uptoBulkAll elems + uptoBulkAll spare + 1
  | .agg parts => uptoBulkAll parts + 1
  | .iface _ d => uptoBulk d + 1
  | .map entries => uptoBulkEntries entries + 1
  | .held _ => 1
def uptoBulkAll {H : Type} : List (DataW H) → Nat
  | [] => 0
  | d :: r => uptoBulk d + uptoBulkAll r
def uptoBulkEntries {H : Type} : List (Lit × DataW H) → Nat
  | [] => 0
  | x :: r => uptoBulkEntry x + uptoBulkEntries r
def uptoBulkEntry {H : Type} : Lit × DataW H → Nat
  | (.string bytes, d) => bytes.length + uptoBulk d + 1
  | (_, d) => uptoBulk d + 1
 end
def uptoSmall : (H : Type) → List (DataW H) → Bool := fun _ ds => decide (uptoBulkAll ds ≤ 1048576)
def OpenSpec.upto (s : _root_.Go.ChangeSpec) : _root_.Go.OpenSpec := { _root_.Go.OpenSpec.ofChange s with cond := some uptoSmall }

/-- 'quernlaw05.NodeKnown', WHERE WHAT IT READS IS OF BULK AT MOST 1048576: true; the input reads as it did. -/
def nodeKnownUptoRow : OpenClaim := { program := "ytlnnfijdldkpiaa", sum := "d5910dfdc1bb0a2f65a2dacb4fb42a73566294af2c5360cbe73de2eee15f4303", func := "quern/quernlaw05.NodeKnown", spec := "nodeKnown", unfollowed := true, recurses := true, apart := false, narrowed := true }
def NodeKnownUptoSaid : Prop := nodeKnownUptoRow.holds Try.pinned (OpenSpec.upto nodeKnownSpec)

/-- 'quernlaw05.NodeKeys', WHERE WHAT IT READS IS OF BULK AT MOST 1048576: true; the input reads as it did. -/
def nodeKeysUptoRow : OpenClaim := { program := "ytlnnfijdldkpiaa", sum := "d5910dfdc1bb0a2f65a2dacb4fb42a73566294af2c5360cbe73de2eee15f4303", func := "quern/quernlaw05.NodeKeys", spec := "nodeKeys", unfollowed := true, recurses := true, apart := false, narrowed := true }
def NodeKeysUptoSaid : Prop := nodeKeysUptoRow.holds Try.pinned (OpenSpec.upto nodeKeysSpec)

/-- 'quernlaw19.LongSizes', WHERE WHAT IT READS IS OF BULK AT MOST 1048576: true; the input reads as it did. -/
def longSizesUptoRow : OpenClaim := { program := "ytlnnfijdldkpiaa", sum := "d5910dfdc1bb0a2f65a2dacb4fb42a73566294af2c5360cbe73de2eee15f4303", func := "quern/quernlaw19.LongSizes", spec := "longSizes", unfollowed := true, recurses := true, apart := false, narrowed := true }
def LongSizesUptoSaid : Prop := longSizesUptoRow.holds Try.pinned (OpenSpec.upto longSizesSpec)

/-- 'quernlaw05.NodeCuts', WHERE WHAT IT READS IS OF BULK AT MOST 1048576: true; the input reads as it did. -/
def nodeCutsUptoRow : OpenClaim := { program := "ytlnnfijdldkpiaa", sum := "d5910dfdc1bb0a2f65a2dacb4fb42a73566294af2c5360cbe73de2eee15f4303", func := "quern/quernlaw05.NodeCuts", spec := "nodeCuts", unfollowed := true, recurses := true, apart := false, narrowed := true }
def NodeCutsUptoSaid : Prop := nodeCutsUptoRow.holds Try.pinned (OpenSpec.upto nodeCutsSpec)

/-- 'quernlaw05.NodeNil', WHERE WHAT IT READS IS OF BULK AT MOST 1048576: true; the input reads as it did. -/
def nodeNilUptoRow : OpenClaim := { program := "ytlnnfijdldkpiaa", sum := "d5910dfdc1bb0a2f65a2dacb4fb42a73566294af2c5360cbe73de2eee15f4303", func := "quern/quernlaw05.NodeNil", spec := "nodeNil", unfollowed := true, recurses := true, apart := false, narrowed := true }
def NodeNilUptoSaid : Prop := nodeNilUptoRow.holds Try.pinned (OpenSpec.upto nodeNilSpec)

/-- 'quernlaw19.LongNames', WHERE WHAT IT READS IS OF BULK AT MOST 1048576: true; the input reads as it did. -/
def longNamesUptoRow : OpenClaim := { program := "ytlnnfijdldkpiaa", sum := "d5910dfdc1bb0a2f65a2dacb4fb42a73566294af2c5360cbe73de2eee15f4303", func := "quern/quernlaw19.LongNames", spec := "longNames", unfollowed := true, recurses := true, apart := false, narrowed := true }
def LongNamesUptoSaid : Prop := longNamesUptoRow.holds Try.pinned (OpenSpec.upto longNamesSpec)

/-- 'quernlaw07.XofNames', WHERE WHAT IT READS IS OF BULK AT MOST 1048576: true; the input reads as it did. -/
def xofNamesUptoRow : OpenClaim := { program := "ytlnnfijdldkpiaa", sum := "d5910dfdc1bb0a2f65a2dacb4fb42a73566294af2c5360cbe73de2eee15f4303", func := "quern/quernlaw07.XofNames", spec := "xofNames", unfollowed := true, recurses := true, apart := false, narrowed := true }
def XofNamesUptoSaid : Prop := xofNamesUptoRow.holds Try.pinned (OpenSpec.upto xofNamesSpec)

end Rows
end Go.Proofs.Ytlnnfijdldkpiaa
