/-
  No cell of these rows narrows 'for every input' (looked for: loops, veiled, ifaces, maps, wideKeys, modest, calm, conditions, laid).
  DERIVED. THE GIVEN ROWS OF THIS SEAT. 6 by the template 'for every input the law returns true; each argument reads behind the call as it read before'; 0 by the template 'total and deterministic' (their statements: YtgecggkcadhooaaGreatTotals.lean).
  GIVEN WITH THE SEED: the statements are not yours to turn. If you find one false, say at which input.
  Laid BY PROGRAM, IN A SANDBOX (cutbox-rows.mjs): the forced cells as the released guide's own fill.sh prints them over the translation a306b3380350b0e6… (all of the seat's roots in one cut). By AI agents, Wed Nov 11 2026. No macro, syntax, notation, axiom, sorry.
-/
import Derived.Test.YtgecggkcadhooaaGreatChecked
import GoSem.Claim
import GoSem.ClaimJoined
import GoSem.ClaimMapViews
import Derived.JoinedTies
import Derived.KernelRfl
namespace Go.Proofs.YtgecggkcadhooaaGreat
/- THE CELL 'sum', in the pinned program and in every row, IS THE sha256 OF THE DUMP (.gsa) THAT YtgecggkcadhooaaGreatProg.lean LOADS. Nothing in Lean hashes anything: it is a label: what it is worth is what the hold of that sum in a sandbox is worth. -/
noncomputable def Tryz.pinned : Pinned := { name := "ytgecggkcadhooaagreat", sum := "a306b3380350b0e6bcc78077fb09bc424dcc1e6a27e3c6c014f643c81ad83692", checked := Tryz.checked }
namespace Rows
def none {H : Type} : Left H := { results := [], args := [] }

/-- 'quernlaw07.XofTakes': WHATEVER THE INPUT: true; the input reads as it did. -/
def xofTakesSpec : ChangeSpec := { name := "xofTakes", fn := fun _ => fun
  | [d1, d2, d3, d4] => { results := [.lit (.bool true)], args := [d1, d2, d3, d4] }
  | _ => none }
def xofTakesRow : OpenClaim := { program := "ytgecggkcadhooaagreat", sum := "a306b3380350b0e6bcc78077fb09bc424dcc1e6a27e3c6c014f643c81ad83692", func := "quern/quernlaw07.XofTakes", spec := "xofTakes", unfollowed := true, recurses := true, apart := false }
def XofTakesSaid : Prop := xofTakesRow.holds Tryz.pinned (OpenSpec.ofChange xofTakesSpec)

/-- ITS FALSE NEIGHBOUR: 'it returns false'. Refute it at one input. -/
def xofTakesWrong : ChangeSpec := { name := "xofTakes", fn := fun _ => fun
  | [d1, d2, d3, d4] => { results := [.lit (.bool false)], args := [d1, d2, d3, d4] }
  | _ => none }
def XofTakesWrongFalsely : Prop := xofTakesRow.holds Tryz.pinned (OpenSpec.ofChange xofTakesWrong)

/-- 'quernlaw07.XofPlays': WHATEVER THE INPUT: true; the input reads as it did. -/
def xofPlaysSpec : ChangeSpec := { name := "xofPlays", fn := fun _ => fun
  | [d1, d2] => { results := [.lit (.bool true)], args := [d1, d2] }
  | _ => none }
def xofPlaysRow : OpenClaim := { program := "ytgecggkcadhooaagreat", sum := "a306b3380350b0e6bcc78077fb09bc424dcc1e6a27e3c6c014f643c81ad83692", func := "quern/quernlaw07.XofPlays", spec := "xofPlays", unfollowed := true, recurses := true, apart := false }
def XofPlaysSaid : Prop := xofPlaysRow.holds Tryz.pinned (OpenSpec.ofChange xofPlaysSpec)

/-- ITS FALSE NEIGHBOUR: 'it returns false'. Refute it at one input. -/
def xofPlaysWrong : ChangeSpec := { name := "xofPlays", fn := fun _ => fun
  | [d1, d2] => { results := [.lit (.bool false)], args := [d1, d2] }
  | _ => none }
def XofPlaysWrongFalsely : Prop := xofPlaysRow.holds Tryz.pinned (OpenSpec.ofChange xofPlaysWrong)

/-- 'quernlaw05.NodeCalls': WHATEVER THE INPUT: true; the input reads as it did. -/
def nodeCallsSpec : ChangeSpec := { name := "nodeCalls", fn := fun _ => fun
  | [d] => { results := [.lit (.bool true)], args := [d] }
  | _ => none }
def nodeCallsRow : OpenClaim := { program := "ytgecggkcadhooaagreat", sum := "a306b3380350b0e6bcc78077fb09bc424dcc1e6a27e3c6c014f643c81ad83692", func := "quern/quernlaw05.NodeCalls", spec := "nodeCalls", unfollowed := true, recurses := true, apart := false }
def NodeCallsSaid : Prop := nodeCallsRow.holds Tryz.pinned (OpenSpec.ofChange nodeCallsSpec)

/-- ITS FALSE NEIGHBOUR: 'it returns false'. Refute it at one input. -/
def nodeCallsWrong : ChangeSpec := { name := "nodeCalls", fn := fun _ => fun
  | [d] => { results := [.lit (.bool false)], args := [d] }
  | _ => none }
def NodeCallsWrongFalsely : Prop := nodeCallsRow.holds Tryz.pinned (OpenSpec.ofChange nodeCallsWrong)

/-- 'quernlaw05.NodePlays': WHATEVER THE INPUT: true; the input reads as it did. -/
def nodePlaysSpec : ChangeSpec := { name := "nodePlays", fn := fun _ => fun
  | [d1, d2] => { results := [.lit (.bool true)], args := [d1, d2] }
  | _ => none }
def nodePlaysRow : OpenClaim := { program := "ytgecggkcadhooaagreat", sum := "a306b3380350b0e6bcc78077fb09bc424dcc1e6a27e3c6c014f643c81ad83692", func := "quern/quernlaw05.NodePlays", spec := "nodePlays", unfollowed := true, recurses := true, apart := false }
def NodePlaysSaid : Prop := nodePlaysRow.holds Tryz.pinned (OpenSpec.ofChange nodePlaysSpec)

/-- ITS FALSE NEIGHBOUR: 'it returns false'. Refute it at one input. -/
def nodePlaysWrong : ChangeSpec := { name := "nodePlays", fn := fun _ => fun
  | [d1, d2] => { results := [.lit (.bool false)], args := [d1, d2] }
  | _ => none }
def NodePlaysWrongFalsely : Prop := nodePlaysRow.holds Tryz.pinned (OpenSpec.ofChange nodePlaysWrong)

/-- 'quernlaw08.LaneCalls': WHATEVER THE INPUT: true; the input reads as it did. -/
def laneCallsSpec : ChangeSpec := { name := "laneCalls", fn := fun _ => fun
  | [d] => { results := [.lit (.bool true)], args := [d] }
  | _ => none }
def laneCallsRow : OpenClaim := { program := "ytgecggkcadhooaagreat", sum := "a306b3380350b0e6bcc78077fb09bc424dcc1e6a27e3c6c014f643c81ad83692", func := "quern/quernlaw08.LaneCalls", spec := "laneCalls", unfollowed := true, recurses := true, apart := false }
def LaneCallsSaid : Prop := laneCallsRow.holds Tryz.pinned (OpenSpec.ofChange laneCallsSpec)

/-- ITS FALSE NEIGHBOUR: 'it returns false'. Refute it at one input. -/
def laneCallsWrong : ChangeSpec := { name := "laneCalls", fn := fun _ => fun
  | [d] => { results := [.lit (.bool false)], args := [d] }
  | _ => none }
def LaneCallsWrongFalsely : Prop := laneCallsRow.holds Tryz.pinned (OpenSpec.ofChange laneCallsWrong)

/-- 'quernlaw08.LaneHashers': WHATEVER THE INPUT: true; the input reads as it did. -/
def laneHashersSpec : ChangeSpec := { name := "laneHashers", fn := fun _ => fun
  | [d1, d2] => { results := [.lit (.bool true)], args := [d1, d2] }
  | _ => none }
def laneHashersRow : OpenClaim := { program := "ytgecggkcadhooaagreat", sum := "a306b3380350b0e6bcc78077fb09bc424dcc1e6a27e3c6c014f643c81ad83692", func := "quern/quernlaw08.LaneHashers", spec := "laneHashers", unfollowed := true, recurses := true, apart := false }
def LaneHashersSaid : Prop := laneHashersRow.holds Tryz.pinned (OpenSpec.ofChange laneHashersSpec)

/-- ITS FALSE NEIGHBOUR: 'it returns false'. Refute it at one input. -/
def laneHashersWrong : ChangeSpec := { name := "laneHashers", fn := fun _ => fun
  | [d1, d2] => { results := [.lit (.bool false)], args := [d1, d2] }
  | _ => none }
def LaneHashersWrongFalsely : Prop := laneHashersRow.holds Tryz.pinned (OpenSpec.ofChange laneHashersWrong)

/- THE SECOND FORM. 'bulk': how many values and letters a reading holds, each counted each time it is reached (what is shared counts as often as it is met; a slice's spare places count too). A statement '..UptoSaid' is the law's where the arguments, and the package variables that the reading takes, are together of bulk at most 1048576: NARROWER than '..Said'. Prove '..Said' where nothing that the law and all that it calls make is longer than what came in: it says more and counts as full. Else prove '..UptoSaid'. A law counts once. -/
mutual
def uptoBulk {H : Type} : DataW H → Nat
  | .lit (.string bytes) => bytes.length + 1
  | .lit _ => 1
  | .nil => 1
  | .ptr d => uptoBulk d + 1
  | .slice elems spare => uptoBulkAll elems + uptoBulkAll spare + 1
  | .agg parts => uptoBulkAll parts + 1
  | .iface _ d => uptoBulk d + 1
  | .map entries => uptoBulkEntries entries + 1
  | .held _ => 1
def uptoBulkAll {H : Type} : List (DataW H) → Nat
  | [] => 0
  | d :: r => uptoBulk d + uptoBulkAll r
def uptoBulkEntries {H : Type} : List (Lit × DataW H) → Nat
  | [] => 0
  | x :: r => uptoBulkEntry x + uptoBulkEntries r
def uptoBulkEntry {H : Type} : Lit × DataW H → Nat
  | (.string bytes, d) => bytes.length + uptoBulk d + 1
  | (_, d) => uptoBulk d + 1
 end
def uptoSmall : (H : Type) → List (DataW H) → Bool := fun _ ds => decide (uptoBulkAll ds ≤ 1048576)
def OpenSpec.upto (s : _root_.Go.ChangeSpec) : _root_.Go.OpenSpec := { _root_.Go.OpenSpec.ofChange s with cond := some uptoSmall }

/-- 'quernlaw07.XofTakes', WHERE WHAT IT READS IS OF BULK AT MOST 1048576: true; the input reads as it did. -/
def xofTakesUptoRow : OpenClaim := { program := "ytgecggkcadhooaagreat", sum := "a306b3380350b0e6bcc78077fb09bc424dcc1e6a27e3c6c014f643c81ad83692", func := "quern/quernlaw07.XofTakes", spec := "xofTakes", unfollowed := true, recurses := true, apart := false, narrowed := true }
def XofTakesUptoSaid : Prop := xofTakesUptoRow.holds Tryz.pinned (OpenSpec.upto xofTakesSpec)

/-- 'quernlaw07.XofPlays', WHERE WHAT IT READS IS OF BULK AT MOST 1048576: true; the input reads as it did. -/
def xofPlaysUptoRow : OpenClaim := { program := "ytgecggkcadhooaagreat", sum := "a306b3380350b0e6bcc78077fb09bc424dcc1e6a27e3c6c014f643c81ad83692", func := "quern/quernlaw07.XofPlays", spec := "xofPlays", unfollowed := true, recurses := true, apart := false, narrowed := true }
def XofPlaysUptoSaid : Prop := xofPlaysUptoRow.holds Tryz.pinned (OpenSpec.upto xofPlaysSpec)

/-- 'quernlaw05.NodeCalls', WHERE WHAT IT READS IS OF BULK AT MOST 1048576: true; the input reads as it did. -/
def nodeCallsUptoRow : OpenClaim := { program := "ytgecggkcadhooaagreat", sum := "a306b3380350b0e6bcc78077fb09bc424dcc1e6a27e3c6c014f643c81ad83692", func := "quern/quernlaw05.NodeCalls", spec := "nodeCalls", unfollowed := true, recurses := true, apart := false, narrowed := true }
def NodeCallsUptoSaid : Prop := nodeCallsUptoRow.holds Tryz.pinned (OpenSpec.upto nodeCallsSpec)

/-- 'quernlaw05.NodePlays', WHERE WHAT IT READS IS OF BULK AT MOST 1048576: true; the input reads as it did. -/
def nodePlaysUptoRow : OpenClaim := { program := "ytgecggkcadhooaagreat", sum := "a306b3380350b0e6bcc78077fb09bc424dcc1e6a27e3c6c014f643c81ad83692", func := "quern/quernlaw05.NodePlays", spec := "nodePlays", unfollowed := true, recurses := true, apart := false, narrowed := true }
def NodePlaysUptoSaid : Prop := nodePlaysUptoRow.holds Tryz.pinned (OpenSpec.upto nodePlaysSpec)

/-- 'quernlaw08.LaneCalls', WHERE WHAT IT READS IS OF BULK AT MOST 1048576: true; the input reads as it did. -/
def laneCallsUptoRow : OpenClaim := { program := "ytgecggkcadhooaagreat", sum := "a306b3380350b0e6bcc78077fb09bc424dcc1e6a27e3c6c014f643c81ad83692", func := "quern/quernlaw08.LaneCalls", spec := "laneCalls", unfollowed := true, recurses := true, apart := false, narrowed := true }
def LaneCallsUptoSaid : Prop := laneCallsUptoRow.holds Tryz.pinned (OpenSpec.upto laneCallsSpec)

/-- 'quernlaw08.LaneHashers', WHERE WHAT IT READS IS OF BULK AT MOST 1048576: true; the input reads as it did. -/
def laneHashersUptoRow : OpenClaim := { program := "ytgecggkcadhooaagreat", sum := "a306b3380350b0e6bcc78077fb09bc424dcc1e6a27e3c6c014f643c81ad83692", func := "quern/quernlaw08.LaneHashers", spec := "laneHashers", unfollowed := true, recurses := true, apart := false, narrowed := true }
def LaneHashersUptoSaid : Prop := laneHashersUptoRow.holds Tryz.pinned (OpenSpec.upto laneHashersSpec)

end Rows
end Go.Proofs.YtgecggkcadhooaaGreat
