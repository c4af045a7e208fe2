/-
  No cell of these rows narrows 'for every input' (looked for: loops, veiled, ifaces, maps, wideKeys, modest, calm, conditions, laid).
  DERIVED. THE GIVEN ROWS OF THIS SEAT. 6 by the template 'for every input the law returns true; each argument reads behind the call as it read before'; 0 by the template 'total and deterministic' (their statements: YtgecggkcadhooaaTotals.lean).
  GIVEN WITH THE SEED: the statements are not yours to turn. If you find one false, say at which input.
  Laid BY PROGRAM, IN A SANDBOX (cutbox-rows.mjs): the forced cells as the released guide's own fill.sh prints them over the translation 62df7b70a2469bdc… (all of the seat's roots in one cut). By AI agents, Wed Nov 11 2026. No macro, syntax, notation, axiom, sorry.
-/
import Derived.Test.YtgecggkcadhooaaChecked
import GoSem.Claim
import GoSem.ClaimJoined
import GoSem.ClaimMapViews
import Derived.JoinedTies
import Derived.KernelRfl
namespace Go.Proofs.Ytgecggkcadhooaa
/- THE CELL 'sum', in the pinned program and in every row, IS THE sha256 OF THE DUMP (.gsa) THAT YtgecggkcadhooaaProg.lean LOADS. Nothing in Lean hashes anything: it is a label: what it is worth is what the hold of that sum in a sandbox is worth. -/
noncomputable def Try.pinned : Pinned := { name := "ytgecggkcadhooaa", sum := "62df7b70a2469bdcd85e93c3c19baabda42d8c80092a67e35beebe214268471b", checked := Try.checked }
namespace Rows
def none {H : Type} : Left H := { results := [], args := [] }

/-- 'quernlaw07.XofJoins': WHATEVER THE INPUT: true; the input reads as it did. -/
def xofJoinsSpec : ChangeSpec := { name := "xofJoins", fn := fun _ => fun
  | [d1, d2, d3, d4, d5] => { results := [.lit (.bool true)], args := [d1, d2, d3, d4, d5] }
  | _ => none }
def xofJoinsRow : OpenClaim := { program := "ytgecggkcadhooaa", sum := "62df7b70a2469bdcd85e93c3c19baabda42d8c80092a67e35beebe214268471b", func := "quern/quernlaw07.XofJoins", spec := "xofJoins", unfollowed := true, recurses := true, apart := false }
def XofJoinsSaid : Prop := xofJoinsRow.holds Try.pinned (OpenSpec.ofChange xofJoinsSpec)

/-- ITS FALSE NEIGHBOUR: 'it returns false'. Refute it at one input. -/
def xofJoinsWrong : ChangeSpec := { name := "xofJoins", fn := fun _ => fun
  | [d1, d2, d3, d4, d5] => { results := [.lit (.bool false)], args := [d1, d2, d3, d4, d5] }
  | _ => none }
def XofJoinsWrongFalsely : Prop := xofJoinsRow.holds Try.pinned (OpenSpec.ofChange xofJoinsWrong)

/-- 'quernlaw07.XofSkips': WHATEVER THE INPUT: true; the input reads as it did. -/
def xofSkipsSpec : ChangeSpec := { name := "xofSkips", fn := fun _ => fun
  | [d1, d2, d3, d4, d5, d6] => { results := [.lit (.bool true)], args := [d1, d2, d3, d4, d5, d6] }
  | _ => none }
def xofSkipsRow : OpenClaim := { program := "ytgecggkcadhooaa", sum := "62df7b70a2469bdcd85e93c3c19baabda42d8c80092a67e35beebe214268471b", func := "quern/quernlaw07.XofSkips", spec := "xofSkips", unfollowed := true, recurses := true, apart := false }
def XofSkipsSaid : Prop := xofSkipsRow.holds Try.pinned (OpenSpec.ofChange xofSkipsSpec)

/-- ITS FALSE NEIGHBOUR: 'it returns false'. Refute it at one input. -/
def xofSkipsWrong : ChangeSpec := { name := "xofSkips", fn := fun _ => fun
  | [d1, d2, d3, d4, d5, d6] => { results := [.lit (.bool false)], args := [d1, d2, d3, d4, d5, d6] }
  | _ => none }
def XofSkipsWrongFalsely : Prop := xofSkipsRow.holds Try.pinned (OpenSpec.ofChange xofSkipsWrong)

/-- 'quernlaw07.XofNil': WHATEVER THE INPUT: true; the input reads as it did. -/
def xofNilSpec : ChangeSpec := { name := "xofNil", fn := fun _ => fun
  | [d1, d2, d3] => { results := [.lit (.bool true)], args := [d1, d2, d3] }
  | _ => none }
def xofNilRow : OpenClaim := { program := "ytgecggkcadhooaa", sum := "62df7b70a2469bdcd85e93c3c19baabda42d8c80092a67e35beebe214268471b", func := "quern/quernlaw07.XofNil", spec := "xofNil", unfollowed := true, recurses := true, apart := false }
def XofNilSaid : Prop := xofNilRow.holds Try.pinned (OpenSpec.ofChange xofNilSpec)

/-- ITS FALSE NEIGHBOUR: 'it returns false'. Refute it at one input. -/
def xofNilWrong : ChangeSpec := { name := "xofNil", fn := fun _ => fun
  | [d1, d2, d3] => { results := [.lit (.bool false)], args := [d1, d2, d3] }
  | _ => none }
def XofNilWrongFalsely : Prop := xofNilRow.holds Try.pinned (OpenSpec.ofChange xofNilWrong)

/-- 'quernlaw05.NodeApart': WHATEVER THE INPUT: true; the input reads as it did. -/
def nodeApartSpec : ChangeSpec := { name := "nodeApart", fn := fun _ => fun
  | [d1, d2, d3, d4] => { results := [.lit (.bool true)], args := [d1, d2, d3, d4] }
  | _ => none }
def nodeApartRow : OpenClaim := { program := "ytgecggkcadhooaa", sum := "62df7b70a2469bdcd85e93c3c19baabda42d8c80092a67e35beebe214268471b", func := "quern/quernlaw05.NodeApart", spec := "nodeApart", unfollowed := true, recurses := true, apart := false }
def NodeApartSaid : Prop := nodeApartRow.holds Try.pinned (OpenSpec.ofChange nodeApartSpec)

/-- ITS FALSE NEIGHBOUR: 'it returns false'. Refute it at one input. -/
def nodeApartWrong : ChangeSpec := { name := "nodeApart", fn := fun _ => fun
  | [d1, d2, d3, d4] => { results := [.lit (.bool false)], args := [d1, d2, d3, d4] }
  | _ => none }
def NodeApartWrongFalsely : Prop := nodeApartRow.holds Try.pinned (OpenSpec.ofChange nodeApartWrong)

/-- 'quernlaw08.LaneAlone': WHATEVER THE INPUT: true; the input reads as it did. -/
def laneAloneSpec : ChangeSpec := { name := "laneAlone", fn := fun _ => fun
  | [d1, d2] => { results := [.lit (.bool true)], args := [d1, d2] }
  | _ => none }
def laneAloneRow : OpenClaim := { program := "ytgecggkcadhooaa", sum := "62df7b70a2469bdcd85e93c3c19baabda42d8c80092a67e35beebe214268471b", func := "quern/quernlaw08.LaneAlone", spec := "laneAlone", unfollowed := true, recurses := true, apart := false }
def LaneAloneSaid : Prop := laneAloneRow.holds Try.pinned (OpenSpec.ofChange laneAloneSpec)

/-- ITS FALSE NEIGHBOUR: 'it returns false'. Refute it at one input. -/
def laneAloneWrong : ChangeSpec := { name := "laneAlone", fn := fun _ => fun
  | [d1, d2] => { results := [.lit (.bool false)], args := [d1, d2] }
  | _ => none }
def LaneAloneWrongFalsely : Prop := laneAloneRow.holds Try.pinned (OpenSpec.ofChange laneAloneWrong)

/-- 'quernlaw08.LaneRoots': WHATEVER THE INPUT: true; the input reads as it did. -/
def laneRootsSpec : ChangeSpec := { name := "laneRoots", fn := fun _ => fun
  | [d] => { results := [.lit (.bool true)], args := [d] }
  | _ => none }
def laneRootsRow : OpenClaim := { program := "ytgecggkcadhooaa", sum := "62df7b70a2469bdcd85e93c3c19baabda42d8c80092a67e35beebe214268471b", func := "quern/quernlaw08.LaneRoots", spec := "laneRoots", unfollowed := true, recurses := true, apart := false }
def LaneRootsSaid : Prop := laneRootsRow.holds Try.pinned (OpenSpec.ofChange laneRootsSpec)

/-- ITS FALSE NEIGHBOUR: 'it returns false'. Refute it at one input. -/
def laneRootsWrong : ChangeSpec := { name := "laneRoots", fn := fun _ => fun
  | [d] => { results := [.lit (.bool false)], args := [d] }
  | _ => none }
def LaneRootsWrongFalsely : Prop := laneRootsRow.holds Try.pinned (OpenSpec.ofChange laneRootsWrong)

/- THE SECOND FORM. 'bulk': how many values and letters a reading holds, each counted each time it is reached (what is shared counts as often as it is met; a slice's spare places count too). A statement '..UptoSaid' is the law's where the arguments, and the package variables that the reading takes, are together of bulk at most 1048576: NARROWER than '..Said'. Prove '..Said' where nothing that the law and all that it calls make is longer than what came in: it says more and counts as full. Else prove '..UptoSaid'. A law counts once. -/
mutual
def uptoBulk {H : Type} : DataW H → Nat
  | .lit (.string bytes) => bytes.length + 1
  | .lit _ => 1
  | .nil => 1
  | .ptr d => uptoBulk d + 1
  | .slice elems spare => uptoBulkAll elems + uptoBulkAll spare + 1
  | .agg parts => uptoBulkAll parts + 1
  | .iface _ d => uptoBulk d + 1
  | .map entries => uptoBulkEntries entries + 1
  | .held _ => 1
def uptoBulkAll {H : Type} : List (DataW H) → Nat
  | [] => 0
  | d :: r => uptoBulk d + uptoBulkAll r
def uptoBulkEntries {H : Type} : List (Lit × DataW H) → Nat
  | [] => 0
  | x :: r => uptoBulkEntry x + uptoBulkEntries r
def uptoBulkEntry {H : Type} : Lit × DataW H → Nat
  | (.string bytes, d) => bytes.length + uptoBulk d + 1
  | (_, d) => uptoBulk d + 1
 end
def uptoSmall : (H : Type) → List (DataW H) → Bool := fun _ ds => decide (uptoBulkAll ds ≤ 1048576)
def OpenSpec.upto (s : _root_.Go.ChangeSpec) : _root_.Go.OpenSpec := { _root_.Go.OpenSpec.ofChange s with cond := some uptoSmall }

/-- 'quernlaw07.XofJoins', WHERE WHAT IT READS IS OF BULK AT MOST 1048576: true; the input reads as it did. -/
def xofJoinsUptoRow : OpenClaim := { program := "ytgecggkcadhooaa", sum := "62df7b70a2469bdcd85e93c3c19baabda42d8c80092a67e35beebe214268471b", func := "quern/quernlaw07.XofJoins", spec := "xofJoins", unfollowed := true, recurses := true, apart := false, narrowed := true }
def XofJoinsUptoSaid : Prop := xofJoinsUptoRow.holds Try.pinned (OpenSpec.upto xofJoinsSpec)

/-- 'quernlaw07.XofSkips', WHERE WHAT IT READS IS OF BULK AT MOST 1048576: true; the input reads as it did. -/
def xofSkipsUptoRow : OpenClaim := { program := "ytgecggkcadhooaa", sum := "62df7b70a2469bdcd85e93c3c19baabda42d8c80092a67e35beebe214268471b", func := "quern/quernlaw07.XofSkips", spec := "xofSkips", unfollowed := true, recurses := true, apart := false, narrowed := true }
def XofSkipsUptoSaid : Prop := xofSkipsUptoRow.holds Try.pinned (OpenSpec.upto xofSkipsSpec)

/-- 'quernlaw07.XofNil', WHERE WHAT IT READS IS OF BULK AT MOST 1048576: true; the input reads as it did. -/
def xofNilUptoRow : OpenClaim := { program := "ytgecggkcadhooaa", sum := "62df7b70a2469bdcd85e93c3c19baabda42d8c80092a67e35beebe214268471b", func := "quern/quernlaw07.XofNil", spec := "xofNil", unfollowed := true, recurses := true, apart := false, narrowed := true }
def XofNilUptoSaid : Prop := xofNilUptoRow.holds Try.pinned (OpenSpec.upto xofNilSpec)

/-- 'quernlaw05.NodeApart', WHERE WHAT IT READS IS OF BULK AT MOST 1048576: true; the input reads as it did. -/
def nodeApartUptoRow : OpenClaim := { program := "ytgecggkcadhooaa", sum := "62df7b70a2469bdcd85e93c3c19baabda42d8c80092a67e35beebe214268471b", func := "quern/quernlaw05.NodeApart", spec := "nodeApart", unfollowed := true, recurses := true, apart := false, narrowed := true }
def NodeApartUptoSaid : Prop := nodeApartUptoRow.holds Try.pinned (OpenSpec.upto nodeApartSpec)

/-- 'quernlaw08.LaneAlone', WHERE WHAT IT READS IS OF BULK AT MOST 1048576: true; the input reads as it did. -/
def laneAloneUptoRow : OpenClaim := { program := "ytgecggkcadhooaa", sum := "62df7b70a2469bdcd85e93c3c19baabda42d8c80092a67e35beebe214268471b", func := "quern/quernlaw08.LaneAlone", spec := "laneAlone", unfollowed := true, recurses := true, apart := false, narrowed := true }
def LaneAloneUptoSaid : Prop := laneAloneUptoRow.holds Try.pinned (OpenSpec.upto laneAloneSpec)

/-- 'quernlaw08.LaneRoots', WHERE WHAT IT READS IS OF BULK AT MOST 1048576: true; the input reads as it did. -/
def laneRootsUptoRow : OpenClaim := { program := "ytgecggkcadhooaa", sum := "62df7b70a2469bdcd85e93c3c19baabda42d8c80092a67e35beebe214268471b", func := "quern/quernlaw08.LaneRoots", spec := "laneRoots", unfollowed := true, recurses := true, apart := false, narrowed := true }
def LaneRootsUptoSaid : Prop := laneRootsUptoRow.holds Try.pinned (OpenSpec.upto laneRootsSpec)

end Rows
end Go.Proofs.Ytgecggkcadhooaa
