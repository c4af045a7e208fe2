/-
  No cell of these rows narrows 'for every input' (looked for: loops, veiled, ifaces, maps, wideKeys, modest, calm, conditions, laid).
  DERIVED. THE GIVEN ROWS OF THIS SEAT. 12 by the template 'for every input the law returns true; each argument reads behind the call as it read before'; 0 by the template 'total and deterministic' (their statements: YtgephdbicbmpeaaGreatTotals.lean).
  GIVEN WITH THE SEED: the statements are not yours to turn. If you find one false, say at which input.
  Laid BY PROGRAM, IN A SANDBOX (cutbox-rows.mjs): the forced cells as the released guide's own fill.sh prints them over the translation b4b0d37101c471e8… (all of the seat's roots in one cut). By AI agents, Wed Nov 11 2026. No macro, syntax, notation, axiom, sorry.
-/
import Derived.Test.YtgephdbicbmpeaaGreatChecked
import GoSem.Claim
import GoSem.ClaimJoined
import GoSem.ClaimMapViews
import Derived.JoinedTies
import Derived.KernelRfl
namespace Go.Proofs.YtgephdbicbmpeaaGreat
/- THE CELL 'sum', in the pinned program and in every row, IS THE sha256 OF THE DUMP (.gsa) THAT YtgephdbicbmpeaaGreatProg.lean LOADS. Nothing in Lean hashes anything: it is a label: what it is worth is what the hold of that sum in a sandbox is worth. -/
noncomputable def Tryz.pinned : Pinned := { name := "ytgephdbicbmpeaagreat", sum := "b4b0d37101c471e8506e6e6d7fc952bf3a5fbac3a36ff61d41dd4ceea396d598", checked := Tryz.checked }
namespace Rows
def none {H : Type} : Left H := { results := [], args := [] }

/-- 'quernlaw05.NodeHashes': WHATEVER THE INPUT: true; the input reads as it did. -/
def nodeHashesSpec : ChangeSpec := { name := "nodeHashes", fn := fun _ => fun
  | [d1, d2, d3, d4] => { results := [.lit (.bool true)], args := [d1, d2, d3, d4] }
  | _ => none }
def nodeHashesRow : OpenClaim := { program := "ytgephdbicbmpeaagreat", sum := "b4b0d37101c471e8506e6e6d7fc952bf3a5fbac3a36ff61d41dd4ceea396d598", func := "quern/quernlaw05.NodeHashes", spec := "nodeHashes", unfollowed := true, recurses := true, apart := false }
def NodeHashesSaid : Prop := nodeHashesRow.holds Tryz.pinned (OpenSpec.ofChange nodeHashesSpec)

/-- ITS FALSE NEIGHBOUR: 'it returns false'. Refute it at one input. -/
def nodeHashesWrong : ChangeSpec := { name := "nodeHashes", fn := fun _ => fun
  | [d1, d2, d3, d4] => { results := [.lit (.bool false)], args := [d1, d2, d3, d4] }
  | _ => none }
def NodeHashesWrongFalsely : Prop := nodeHashesRow.holds Tryz.pinned (OpenSpec.ofChange nodeHashesWrong)

/-- 'quernlaw05.NodeCalls': WHATEVER THE INPUT: true; the input reads as it did. -/
def nodeCallsSpec : ChangeSpec := { name := "nodeCalls", fn := fun _ => fun
  | [d] => { results := [.lit (.bool true)], args := [d] }
  | _ => none }
def nodeCallsRow : OpenClaim := { program := "ytgephdbicbmpeaagreat", sum := "b4b0d37101c471e8506e6e6d7fc952bf3a5fbac3a36ff61d41dd4ceea396d598", func := "quern/quernlaw05.NodeCalls", spec := "nodeCalls", unfollowed := true, recurses := true, apart := false }
def NodeCallsSaid : Prop := nodeCallsRow.holds Tryz.pinned (OpenSpec.ofChange nodeCallsSpec)

/-- ITS FALSE NEIGHBOUR: 'it returns false'. Refute it at one input. -/
def nodeCallsWrong : ChangeSpec := { name := "nodeCalls", fn := fun _ => fun
  | [d] => { results := [.lit (.bool false)], args := [d] }
  | _ => none }
def NodeCallsWrongFalsely : Prop := nodeCallsRow.holds Tryz.pinned (OpenSpec.ofChange nodeCallsWrong)

/-- 'quernlaw19.LongHashes': WHATEVER THE INPUT: true; the input reads as it did. -/
def longHashesSpec : ChangeSpec := { name := "longHashes", fn := fun _ => fun
  | [d1, d2] => { results := [.lit (.bool true)], args := [d1, d2] }
  | _ => none }
def longHashesRow : OpenClaim := { program := "ytgephdbicbmpeaagreat", sum := "b4b0d37101c471e8506e6e6d7fc952bf3a5fbac3a36ff61d41dd4ceea396d598", func := "quern/quernlaw19.LongHashes", spec := "longHashes", unfollowed := true, recurses := true, apart := false }
def LongHashesSaid : Prop := longHashesRow.holds Tryz.pinned (OpenSpec.ofChange longHashesSpec)

/-- ITS FALSE NEIGHBOUR: 'it returns false'. Refute it at one input. -/
def longHashesWrong : ChangeSpec := { name := "longHashes", fn := fun _ => fun
  | [d1, d2] => { results := [.lit (.bool false)], args := [d1, d2] }
  | _ => none }
def LongHashesWrongFalsely : Prop := longHashesRow.holds Tryz.pinned (OpenSpec.ofChange longHashesWrong)

/-- 'quernlaw19.LongChains': WHATEVER THE INPUT: true; the input reads as it did. -/
def longChainsSpec : ChangeSpec := { name := "longChains", fn := fun _ => fun
  | [d1, d2] => { results := [.lit (.bool true)], args := [d1, d2] }
  | _ => none }
def longChainsRow : OpenClaim := { program := "ytgephdbicbmpeaagreat", sum := "b4b0d37101c471e8506e6e6d7fc952bf3a5fbac3a36ff61d41dd4ceea396d598", func := "quern/quernlaw19.LongChains", spec := "longChains", unfollowed := true, recurses := true, apart := false }
def LongChainsSaid : Prop := longChainsRow.holds Tryz.pinned (OpenSpec.ofChange longChainsSpec)

/-- ITS FALSE NEIGHBOUR: 'it returns false'. Refute it at one input. -/
def longChainsWrong : ChangeSpec := { name := "longChains", fn := fun _ => fun
  | [d1, d2] => { results := [.lit (.bool false)], args := [d1, d2] }
  | _ => none }
def LongChainsWrongFalsely : Prop := longChainsRow.holds Tryz.pinned (OpenSpec.ofChange longChainsWrong)

/-- 'quernlaw20.ArgonStarts': WHATEVER THE INPUT: true; the input reads as it did. -/
def argonStartsSpec : ChangeSpec := { name := "argonStarts", fn := fun _ => fun
  | [d] => { results := [.lit (.bool true)], args := [d] }
  | _ => none }
def argonStartsRow : OpenClaim := { program := "ytgephdbicbmpeaagreat", sum := "b4b0d37101c471e8506e6e6d7fc952bf3a5fbac3a36ff61d41dd4ceea396d598", func := "quern/quernlaw20.ArgonStarts", spec := "argonStarts", unfollowed := true, recurses := true, apart := false }
def ArgonStartsSaid : Prop := argonStartsRow.holds Tryz.pinned (OpenSpec.ofChange argonStartsSpec)

/-- ITS FALSE NEIGHBOUR: 'it returns false'. Refute it at one input. -/
def argonStartsWrong : ChangeSpec := { name := "argonStarts", fn := fun _ => fun
  | [d] => { results := [.lit (.bool false)], args := [d] }
  | _ => none }
def ArgonStartsWrongFalsely : Prop := argonStartsRow.holds Tryz.pinned (OpenSpec.ofChange argonStartsWrong)

/-- 'quernlaw07.XofRoots': WHATEVER THE INPUT: true; the input reads as it did. -/
def xofRootsSpec : ChangeSpec := { name := "xofRoots", fn := fun _ => fun
  | [d1, d2] => { results := [.lit (.bool true)], args := [d1, d2] }
  | _ => none }
def xofRootsRow : OpenClaim := { program := "ytgephdbicbmpeaagreat", sum := "b4b0d37101c471e8506e6e6d7fc952bf3a5fbac3a36ff61d41dd4ceea396d598", func := "quern/quernlaw07.XofRoots", spec := "xofRoots", unfollowed := true, recurses := true, apart := false }
def XofRootsSaid : Prop := xofRootsRow.holds Tryz.pinned (OpenSpec.ofChange xofRootsSpec)

/-- ITS FALSE NEIGHBOUR: 'it returns false'. Refute it at one input. -/
def xofRootsWrong : ChangeSpec := { name := "xofRoots", fn := fun _ => fun
  | [d1, d2] => { results := [.lit (.bool false)], args := [d1, d2] }
  | _ => none }
def XofRootsWrongFalsely : Prop := xofRootsRow.holds Tryz.pinned (OpenSpec.ofChange xofRootsWrong)

/-- 'quernlaw07.XofPieces': WHATEVER THE INPUT: true; the input reads as it did. -/
def xofPiecesSpec : ChangeSpec := { name := "xofPieces", fn := fun _ => fun
  | [d1, d2, d3] => { results := [.lit (.bool true)], args := [d1, d2, d3] }
  | _ => none }
def xofPiecesRow : OpenClaim := { program := "ytgephdbicbmpeaagreat", sum := "b4b0d37101c471e8506e6e6d7fc952bf3a5fbac3a36ff61d41dd4ceea396d598", func := "quern/quernlaw07.XofPieces", spec := "xofPieces", unfollowed := true, recurses := true, apart := false }
def XofPiecesSaid : Prop := xofPiecesRow.holds Tryz.pinned (OpenSpec.ofChange xofPiecesSpec)

/-- ITS FALSE NEIGHBOUR: 'it returns false'. Refute it at one input. -/
def xofPiecesWrong : ChangeSpec := { name := "xofPieces", fn := fun _ => fun
  | [d1, d2, d3] => { results := [.lit (.bool false)], args := [d1, d2, d3] }
  | _ => none }
def XofPiecesWrongFalsely : Prop := xofPiecesRow.holds Tryz.pinned (OpenSpec.ofChange xofPiecesWrong)

/-- 'quernlaw08.LaneCalls': WHATEVER THE INPUT: true; the input reads as it did. -/
def laneCallsSpec : ChangeSpec := { name := "laneCalls", fn := fun _ => fun
  | [d] => { results := [.lit (.bool true)], args := [d] }
  | _ => none }
def laneCallsRow : OpenClaim := { program := "ytgephdbicbmpeaagreat", sum := "b4b0d37101c471e8506e6e6d7fc952bf3a5fbac3a36ff61d41dd4ceea396d598", func := "quern/quernlaw08.LaneCalls", spec := "laneCalls", unfollowed := true, recurses := true, apart := false }
def LaneCallsSaid : Prop := laneCallsRow.holds Tryz.pinned (OpenSpec.ofChange laneCallsSpec)

/-- ITS FALSE NEIGHBOUR: 'it returns false'. Refute it at one input. -/
def laneCallsWrong : ChangeSpec := { name := "laneCalls", fn := fun _ => fun
  | [d] => { results := [.lit (.bool false)], args := [d] }
  | _ => none }
def LaneCallsWrongFalsely : Prop := laneCallsRow.holds Tryz.pinned (OpenSpec.ofChange laneCallsWrong)

/-- 'quernlaw07.XofTakes': WHATEVER THE INPUT: true; the input reads as it did. -/
def xofTakesSpec : ChangeSpec := { name := "xofTakes", fn := fun _ => fun
  | [d1, d2, d3, d4] => { results := [.lit (.bool true)], args := [d1, d2, d3, d4] }
  | _ => none }
def xofTakesRow : OpenClaim := { program := "ytgephdbicbmpeaagreat", sum := "b4b0d37101c471e8506e6e6d7fc952bf3a5fbac3a36ff61d41dd4ceea396d598", func := "quern/quernlaw07.XofTakes", spec := "xofTakes", unfollowed := true, recurses := true, apart := false }
def XofTakesSaid : Prop := xofTakesRow.holds Tryz.pinned (OpenSpec.ofChange xofTakesSpec)

/-- ITS FALSE NEIGHBOUR: 'it returns false'. Refute it at one input. -/
def xofTakesWrong : ChangeSpec := { name := "xofTakes", fn := fun _ => fun
  | [d1, d2, d3, d4] => { results := [.lit (.bool false)], args := [d1, d2, d3, d4] }
  | _ => none }
def XofTakesWrongFalsely : Prop := xofTakesRow.holds Tryz.pinned (OpenSpec.ofChange xofTakesWrong)

/-- 'quernlaw07.XofPlays': WHATEVER THE INPUT: true; the input reads as it did. -/
def xofPlaysSpec : ChangeSpec := { name := "xofPlays", fn := fun _ => fun
  | [d1, d2] => { results := [.lit (.bool true)], args := [d1, d2] }
  | _ => none }
def xofPlaysRow : OpenClaim := { program := "ytgephdbicbmpeaagreat", sum := "b4b0d37101c471e8506e6e6d7fc952bf3a5fbac3a36ff61d41dd4ceea396d598", func := "quern/quernlaw07.XofPlays", spec := "xofPlays", unfollowed := true, recurses := true, apart := false }
def XofPlaysSaid : Prop := xofPlaysRow.holds Tryz.pinned (OpenSpec.ofChange xofPlaysSpec)

/-- ITS FALSE NEIGHBOUR: 'it returns false'. Refute it at one input. -/
def xofPlaysWrong : ChangeSpec := { name := "xofPlays", fn := fun _ => fun
  | [d1, d2] => { results := [.lit (.bool false)], args := [d1, d2] }
  | _ => none }
def XofPlaysWrongFalsely : Prop := xofPlaysRow.holds Tryz.pinned (OpenSpec.ofChange xofPlaysWrong)

/-- 'quernlaw08.LaneHashers': WHATEVER THE INPUT: true; the input reads as it did. -/
def laneHashersSpec : ChangeSpec := { name := "laneHashers", fn := fun _ => fun
  | [d1, d2] => { results := [.lit (.bool true)], args := [d1, d2] }
  | _ => none }
def laneHashersRow : OpenClaim := { program := "ytgephdbicbmpeaagreat", sum := "b4b0d37101c471e8506e6e6d7fc952bf3a5fbac3a36ff61d41dd4ceea396d598", func := "quern/quernlaw08.LaneHashers", spec := "laneHashers", unfollowed := true, recurses := true, apart := false }
def LaneHashersSaid : Prop := laneHashersRow.holds Tryz.pinned (OpenSpec.ofChange laneHashersSpec)

/-- ITS FALSE NEIGHBOUR: 'it returns false'. Refute it at one input. -/
def laneHashersWrong : ChangeSpec := { name := "laneHashers", fn := fun _ => fun
  | [d1, d2] => { results := [.lit (.bool false)], args := [d1, d2] }
  | _ => none }
def LaneHashersWrongFalsely : Prop := laneHashersRow.holds Tryz.pinned (OpenSpec.ofChange laneHashersWrong)

/-- 'quernlaw05.NodePlays': WHATEVER THE INPUT: true; the input reads as it did. -/
def nodePlaysSpec : ChangeSpec := { name := "nodePlays", fn := fun _ => fun
  | [d1, d2] => { results := [.lit (.bool true)], args := [d1, d2] }
  | _ => none }
def nodePlaysRow : OpenClaim := { program := "ytgephdbicbmpeaagreat", sum := "b4b0d37101c471e8506e6e6d7fc952bf3a5fbac3a36ff61d41dd4ceea396d598", func := "quern/quernlaw05.NodePlays", spec := "nodePlays", unfollowed := true, recurses := true, apart := false }
def NodePlaysSaid : Prop := nodePlaysRow.holds Tryz.pinned (OpenSpec.ofChange nodePlaysSpec)

/-- ITS FALSE NEIGHBOUR: 'it returns false'. Refute it at one input. -/
def nodePlaysWrong : ChangeSpec := { name := "nodePlays", fn := fun _ => fun
  | [d1, d2] => { results := [.lit (.bool false)], args := [d1, d2] }
  | _ => none }
def NodePlaysWrongFalsely : Prop := nodePlaysRow.holds Tryz.pinned (OpenSpec.ofChange nodePlaysWrong)

/- THE SECOND FORM. 'bulk': how many values and letters a reading holds, each counted each time it is reached (what is shared counts as often as it is met; a slice's spare places count too). A statement '..UptoSaid' is the law's where the arguments, and the package variables that the reading takes, are together of bulk at most 1048576: NARROWER than '..Said'. Prove '..Said' where nothing that the law and all that it calls make is longer than what came in: it says more and counts as full. Else prove '..UptoSaid'. A law counts once. -/
mutual
def uptoBulk {H : Type} : DataW H → Nat
  | .lit (.string bytes) => bytes.length + 1
  | .lit _ => 1
  | .nil => 1
  | .ptr d => uptoBulk d + 1
  | .slice elems spare => uptoBulkAll elems + uptoBulkAll spare + 1
  | .agg parts => uptoBulkAll parts + 1
  | .iface _ d => uptoBulk d + 1
  | .map entries => uptoBulkEntries entries + 1
  | .held _ => 1
def uptoBulkAll {H : Type} : List (DataW H) → Nat
  | [] => 0
  | d :: r => uptoBulk d + uptoBulkAll r
def uptoBulkEntries {H : Type} : List (Lit × DataW H) → Nat
  | [] => 0
  | x :: r => uptoBulkEntry x + uptoBulkEntries r
def uptoBulkEntry {H : Type} : Lit × DataW H → Nat
  | (.string bytes, d) => bytes.length + uptoBulk d + 1
  | (_, d) => uptoBulk d + 1
 end
def uptoSmall : (H : Type) → List (DataW H) → Bool := fun _ ds => decide (uptoBulkAll ds ≤ 1048576)
def OpenSpec.upto (s : _root_.Go.ChangeSpec) : _root_.Go.OpenSpec := { _root_.Go.OpenSpec.ofChange s with cond := some uptoSmall }

/-- 'quernlaw05.NodeHashes', WHERE WHAT IT READS IS OF BULK AT MOST 1048576: true; the input reads as it did. -/
def nodeHashesUptoRow : OpenClaim := { program := "ytgephdbicbmpeaagreat", sum := "b4b0d37101c471e8506e6e6d7fc952bf3a5fbac3a36ff61d41dd4ceea396d598", func := "quern/quernlaw05.NodeHashes", spec := "nodeHashes", unfollowed := true, recurses := true, apart := false, narrowed := true }
def NodeHashesUptoSaid : Prop := nodeHashesUptoRow.holds Tryz.pinned (OpenSpec.upto nodeHashesSpec)

/-- 'quernlaw05.NodeCalls', WHERE WHAT IT READS IS OF BULK AT MOST 1048576: true; the input reads as it did. -/
def nodeCallsUptoRow : OpenClaim := { program := "ytgephdbicbmpeaagreat", sum := "b4b0d37101c471e8506e6e6d7fc952bf3a5fbac3a36ff61d41dd4ceea396d598", func := "quern/quernlaw05.NodeCalls", spec := "nodeCalls", unfollowed := true, recurses := true, apart := false, narrowed := true }
def NodeCallsUptoSaid : Prop := nodeCallsUptoRow.holds Tryz.pinned (OpenSpec.upto nodeCallsSpec)

/-- 'quernlaw19.LongHashes', WHERE WHAT IT READS IS OF BULK AT MOST 1048576: true; the input reads as it did. -/
def longHashesUptoRow : OpenClaim := { program := "ytgephdbicbmpeaagreat", sum := "b4b0d37101c471e8506e6e6d7fc952bf3a5fbac3a36ff61d41dd4ceea396d598", func := "quern/quernlaw19.LongHashes", spec := "longHashes", unfollowed := true, recurses := true, apart := false, narrowed := true }
def LongHashesUptoSaid : Prop := longHashesUptoRow.holds Tryz.pinned (OpenSpec.upto longHashesSpec)

/-- 'quernlaw19.LongChains', WHERE WHAT IT READS IS OF BULK AT MOST 1048576: true; the input reads as it did. -/
def longChainsUptoRow : OpenClaim := { program := "ytgephdbicbmpeaagreat", sum := "b4b0d37101c471e8506e6e6d7fc952bf3a5fbac3a36ff61d41dd4ceea396d598", func := "quern/quernlaw19.LongChains", spec := "longChains", unfollowed := true, recurses := true, apart := false, narrowed := true }
def LongChainsUptoSaid : Prop := longChainsUptoRow.holds Tryz.pinned (OpenSpec.upto longChainsSpec)

/-- 'quernlaw20.ArgonStarts', WHERE WHAT IT READS IS OF BULK AT MOST 1048576: true; the input reads as it did. -/
def argonStartsUptoRow : OpenClaim := { program := "ytgephdbicbmpeaagreat", sum := "b4b0d37101c471e8506e6e6d7fc952bf3a5fbac3a36ff61d41dd4ceea396d598", func := "quern/quernlaw20.ArgonStarts", spec := "argonStarts", unfollowed := true, recurses := true, apart := false, narrowed := true }
def ArgonStartsUptoSaid : Prop := argonStartsUptoRow.holds Tryz.pinned (OpenSpec.upto argonStartsSpec)

/-- 'quernlaw07.XofRoots', WHERE WHAT IT READS IS OF BULK AT MOST 1048576: true; the input reads as it did. -/
def xofRootsUptoRow : OpenClaim := { program := "ytgephdbicbmpeaagreat", sum := "b4b0d37101c471e8506e6e6d7fc952bf3a5fbac3a36ff61d41dd4ceea396d598", func := "quern/quernlaw07.XofRoots", spec := "xofRoots", unfollowed := true, recurses := true, apart := false, narrowed := true }
def XofRootsUptoSaid : Prop := xofRootsUptoRow.holds Tryz.pinned (OpenSpec.upto xofRootsSpec)

/-- 'quernlaw07.XofPieces', WHERE WHAT IT READS IS OF BULK AT MOST 1048576: true; the input reads as it did. -/
def xofPiecesUptoRow : OpenClaim := { program := "ytgephdbicbmpeaagreat", sum := "b4b0d37101c471e8506e6e6d7fc952bf3a5fbac3a36ff61d41dd4ceea396d598", func := "quern/quernlaw07.XofPieces", spec := "xofPieces", unfollowed := true, recurses := true, apart := false, narrowed := true }
def XofPiecesUptoSaid : Prop := xofPiecesUptoRow.holds Tryz.pinned (OpenSpec.upto xofPiecesSpec)

/-- 'quernlaw08.LaneCalls', WHERE WHAT IT READS IS OF BULK AT MOST 1048576: true; the input reads as it did. -/
def laneCallsUptoRow : OpenClaim := { program := "ytgephdbicbmpeaagreat", sum := "b4b0d37101c471e8506e6e6d7fc952bf3a5fbac3a36ff61d41dd4ceea396d598", func := "quern/quernlaw08.LaneCalls", spec := "laneCalls", unfollowed := true, recurses := true, apart := false, narrowed := true }
def LaneCallsUptoSaid : Prop := laneCallsUptoRow.holds Tryz.pinned (OpenSpec.upto laneCallsSpec)

/-- 'quernlaw07.XofTakes', WHERE WHAT IT READS IS OF BULK AT MOST 1048576: true; the input reads as it did. -/
def xofTakesUptoRow : OpenClaim := { program := "ytgephdbicbmpeaagreat", sum := "b4b0d37101c471e8506e6e6d7fc952bf3a5fbac3a36ff61d41dd4ceea396d598", func := "quern/quernlaw07.XofTakes", spec := "xofTakes", unfollowed := true, recurses := true, apart := false, narrowed := true }
def XofTakesUptoSaid : Prop := xofTakesUptoRow.holds Tryz.pinned (OpenSpec.upto xofTakesSpec)

/-- 'quernlaw07.XofPlays', WHERE WHAT IT READS IS OF BULK AT MOST 1048576: true; the input reads as it did. -/
def xofPlaysUptoRow : OpenClaim := { program := "ytgephdbicbmpeaagreat", sum := "b4b0d37101c471e8506e6e6d7fc952bf3a5fbac3a36ff61d41dd4ceea396d598", func := "quern/quernlaw07.XofPlays", spec := "xofPlays", unfollowed := true, recurses := true, apart := false, narrowed := true }
def XofPlaysUptoSaid : Prop := xofPlaysUptoRow.holds Tryz.pinned (OpenSpec.upto xofPlaysSpec)

/-- 'quernlaw08.LaneHashers', WHERE WHAT IT READS IS OF BULK AT MOST 1048576: true; the input reads as it did. -/
def laneHashersUptoRow : OpenClaim := { program := "ytgephdbicbmpeaagreat", sum := "b4b0d37101c471e8506e6e6d7fc952bf3a5fbac3a36ff61d41dd4ceea396d598", func := "quern/quernlaw08.LaneHashers", spec := "laneHashers", unfollowed := true, recurses := true, apart := false, narrowed := true }
def LaneHashersUptoSaid : Prop := laneHashersUptoRow.holds Tryz.pinned (OpenSpec.upto laneHashersSpec)

/-- 'quernlaw05.NodePlays', WHERE WHAT IT READS IS OF BULK AT MOST 1048576: true; the input reads as it did. -/
def nodePlaysUptoRow : OpenClaim := { program := "ytgephdbicbmpeaagreat", sum := "b4b0d37101c471e8506e6e6d7fc952bf3a5fbac3a36ff61d41dd4ceea396d598", func := "quern/quernlaw05.NodePlays", spec := "nodePlays", unfollowed := true, recurses := true, apart := false, narrowed := true }
def NodePlaysUptoSaid : Prop := nodePlaysUptoRow.holds Tryz.pinned (OpenSpec.upto nodePlaysSpec)

end Rows
end Go.Proofs.YtgephdbicbmpeaaGreat
