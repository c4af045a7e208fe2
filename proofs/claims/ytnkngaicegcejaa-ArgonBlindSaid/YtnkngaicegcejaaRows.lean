/-
  No cell of these rows narrows 'for every input' (looked for: loops, veiled, ifaces, maps, wideKeys, modest, calm, conditions, laid).
  DERIVED. THE GIVEN ROWS OF THIS SEAT. 11 by the template 'for every input the law returns true; each argument reads behind the call as it read before'; 0 by the template 'total and deterministic' (their statements: YtnkngaicegcejaaTotals.lean).
  GIVEN WITH THE SEED: the statements are not yours to turn. If you find one false, say at which input.
  Laid BY PROGRAM, IN A SANDBOX (cutbox-rows.mjs): the forced cells as the released guide's own fill.sh prints them over the translation 1314eb6b239b9050… (all of the seat's roots in one cut). By AI agents, Wed Nov 11 2026. No macro, syntax, notation, axiom, sorry.
-/
import Derived.Test.YtnkngaicegcejaaChecked
import GoSem.Claim
import GoSem.ClaimJoined
import GoSem.ClaimMapViews
import Derived.JoinedTies
import Derived.KernelRfl
namespace Go.Proofs.Ytnkngaicegcejaa
/- THE CELL 'sum', in the pinned program and in every row, IS THE sha256 OF THE DUMP (.gsa) THAT YtnkngaicegcejaaProg.lean LOADS. Nothing in Lean hashes anything: it is a label: what it is worth is what the hold of that sum in a sandbox is worth. -/
noncomputable def Try.pinned : Pinned := { name := "ytnkngaicegcejaa", sum := "1314eb6b239b905003eb2459da260d8386cfc7a90be587c7411db368ea3a41b1", checked := Try.checked }
namespace Rows
def none {H : Type} : Left H := { results := [], args := [] }

/-- 'quernlaw08.LaneSplits': WHATEVER THE INPUT: true; the input reads as it did. -/
def laneSplitsSpec : ChangeSpec := { name := "laneSplits", fn := fun _ => fun
  | [d1, d2] => { results := [.lit (.bool true)], args := [d1, d2] }
  | _ => none }
def laneSplitsRow : OpenClaim := { program := "ytnkngaicegcejaa", sum := "1314eb6b239b905003eb2459da260d8386cfc7a90be587c7411db368ea3a41b1", func := "quern/quernlaw08.LaneSplits", spec := "laneSplits", apart := false }
def LaneSplitsSaid : Prop := laneSplitsRow.holds Try.pinned (OpenSpec.ofChange laneSplitsSpec)

/-- ITS FALSE NEIGHBOUR: 'it returns false'. Refute it at one input. -/
def laneSplitsWrong : ChangeSpec := { name := "laneSplits", fn := fun _ => fun
  | [d1, d2] => { results := [.lit (.bool false)], args := [d1, d2] }
  | _ => none }
def LaneSplitsWrongFalsely : Prop := laneSplitsRow.holds Try.pinned (OpenSpec.ofChange laneSplitsWrong)

/-- 'quernlaw19.LongBlends': WHATEVER THE INPUT: true; the input reads as it did. -/
def longBlendsSpec : ChangeSpec := { name := "longBlends", fn := fun _ => fun
  | [d] => { results := [.lit (.bool true)], args := [d] }
  | _ => none }
def longBlendsRow : OpenClaim := { program := "ytnkngaicegcejaa", sum := "1314eb6b239b905003eb2459da260d8386cfc7a90be587c7411db368ea3a41b1", func := "quern/quernlaw19.LongBlends", spec := "longBlends", apart := false }
def LongBlendsSaid : Prop := longBlendsRow.holds Try.pinned (OpenSpec.ofChange longBlendsSpec)

/-- ITS FALSE NEIGHBOUR: 'it returns false'. Refute it at one input. -/
def longBlendsWrong : ChangeSpec := { name := "longBlends", fn := fun _ => fun
  | [d] => { results := [.lit (.bool false)], args := [d] }
  | _ => none }
def LongBlendsWrongFalsely : Prop := longBlendsRow.holds Try.pinned (OpenSpec.ofChange longBlendsWrong)

/-- 'quernlaw08.LaneJoins': WHATEVER THE INPUT: true; the input reads as it did. -/
def laneJoinsSpec : ChangeSpec := { name := "laneJoins", fn := fun _ => fun
  | [d1, d2] => { results := [.lit (.bool true)], args := [d1, d2] }
  | _ => none }
def laneJoinsRow : OpenClaim := { program := "ytnkngaicegcejaa", sum := "1314eb6b239b905003eb2459da260d8386cfc7a90be587c7411db368ea3a41b1", func := "quern/quernlaw08.LaneJoins", spec := "laneJoins", apart := false }
def LaneJoinsSaid : Prop := laneJoinsRow.holds Try.pinned (OpenSpec.ofChange laneJoinsSpec)

/-- ITS FALSE NEIGHBOUR: 'it returns false'. Refute it at one input. -/
def laneJoinsWrong : ChangeSpec := { name := "laneJoins", fn := fun _ => fun
  | [d1, d2] => { results := [.lit (.bool false)], args := [d1, d2] }
  | _ => none }
def LaneJoinsWrongFalsely : Prop := laneJoinsRow.holds Try.pinned (OpenSpec.ofChange laneJoinsWrong)

/-- 'quernlaw20.ArgonRefers': WHATEVER THE INPUT: true; the input reads as it did. -/
def argonRefersSpec : ChangeSpec := { name := "argonRefers", fn := fun _ => fun
  | [d1, d2] => { results := [.lit (.bool true)], args := [d1, d2] }
  | _ => none }
def argonRefersRow : OpenClaim := { program := "ytnkngaicegcejaa", sum := "1314eb6b239b905003eb2459da260d8386cfc7a90be587c7411db368ea3a41b1", func := "quern/quernlaw20.ArgonRefers", spec := "argonRefers", apart := false }
def ArgonRefersSaid : Prop := argonRefersRow.holds Try.pinned (OpenSpec.ofChange argonRefersSpec)

/-- ITS FALSE NEIGHBOUR: 'it returns false'. Refute it at one input. -/
def argonRefersWrong : ChangeSpec := { name := "argonRefers", fn := fun _ => fun
  | [d1, d2] => { results := [.lit (.bool false)], args := [d1, d2] }
  | _ => none }
def ArgonRefersWrongFalsely : Prop := argonRefersRow.holds Try.pinned (OpenSpec.ofChange argonRefersWrong)

/-- 'quernlaw20.ArgonApart': WHATEVER THE INPUT: true; the input reads as it did. -/
def argonApartSpec : ChangeSpec := { name := "argonApart", fn := fun _ => fun
  | [d1, d2] => { results := [.lit (.bool true)], args := [d1, d2] }
  | _ => none }
def argonApartRow : OpenClaim := { program := "ytnkngaicegcejaa", sum := "1314eb6b239b905003eb2459da260d8386cfc7a90be587c7411db368ea3a41b1", func := "quern/quernlaw20.ArgonApart", spec := "argonApart", apart := false }
def ArgonApartSaid : Prop := argonApartRow.holds Try.pinned (OpenSpec.ofChange argonApartSpec)

/-- ITS FALSE NEIGHBOUR: 'it returns false'. Refute it at one input. -/
def argonApartWrong : ChangeSpec := { name := "argonApart", fn := fun _ => fun
  | [d1, d2] => { results := [.lit (.bool false)], args := [d1, d2] }
  | _ => none }
def ArgonApartWrongFalsely : Prop := argonApartRow.holds Try.pinned (OpenSpec.ofChange argonApartWrong)

/-- 'quernlaw08.LaneBack': WHATEVER THE INPUT: true; the input reads as it did. -/
def laneBackSpec : ChangeSpec := { name := "laneBack", fn := fun _ => fun
  | [d1, d2, d3] => { results := [.lit (.bool true)], args := [d1, d2, d3] }
  | _ => none }
def laneBackRow : OpenClaim := { program := "ytnkngaicegcejaa", sum := "1314eb6b239b905003eb2459da260d8386cfc7a90be587c7411db368ea3a41b1", func := "quern/quernlaw08.LaneBack", spec := "laneBack", apart := false }
def LaneBackSaid : Prop := laneBackRow.holds Try.pinned (OpenSpec.ofChange laneBackSpec)

/-- ITS FALSE NEIGHBOUR: 'it returns false'. Refute it at one input. -/
def laneBackWrong : ChangeSpec := { name := "laneBack", fn := fun _ => fun
  | [d1, d2, d3] => { results := [.lit (.bool false)], args := [d1, d2, d3] }
  | _ => none }
def LaneBackWrongFalsely : Prop := laneBackRow.holds Try.pinned (OpenSpec.ofChange laneBackWrong)

/-- 'quernlaw08.LaneParams': WHATEVER THE INPUT: true; the input reads as it did. -/
def laneParamsSpec : ChangeSpec := { name := "laneParams", fn := fun _ => fun
  | [d1, d2, d3] => { results := [.lit (.bool true)], args := [d1, d2, d3] }
  | _ => none }
def laneParamsRow : OpenClaim := { program := "ytnkngaicegcejaa", sum := "1314eb6b239b905003eb2459da260d8386cfc7a90be587c7411db368ea3a41b1", func := "quern/quernlaw08.LaneParams", spec := "laneParams", apart := false }
def LaneParamsSaid : Prop := laneParamsRow.holds Try.pinned (OpenSpec.ofChange laneParamsSpec)

/-- ITS FALSE NEIGHBOUR: 'it returns false'. Refute it at one input. -/
def laneParamsWrong : ChangeSpec := { name := "laneParams", fn := fun _ => fun
  | [d1, d2, d3] => { results := [.lit (.bool false)], args := [d1, d2, d3] }
  | _ => none }
def LaneParamsWrongFalsely : Prop := laneParamsRow.holds Try.pinned (OpenSpec.ofChange laneParamsWrong)

/-- 'quernlaw19.LongMixes': WHATEVER THE INPUT: true; the input reads as it did. -/
def longMixesSpec : ChangeSpec := { name := "longMixes", fn := fun _ => fun
  | [d1, d2, d3] => { results := [.lit (.bool true)], args := [d1, d2, d3] }
  | _ => none }
def longMixesRow : OpenClaim := { program := "ytnkngaicegcejaa", sum := "1314eb6b239b905003eb2459da260d8386cfc7a90be587c7411db368ea3a41b1", func := "quern/quernlaw19.LongMixes", spec := "longMixes", unfollowed := true, recurses := true, apart := false }
def LongMixesSaid : Prop := longMixesRow.holds Try.pinned (OpenSpec.ofChange longMixesSpec)

/-- ITS FALSE NEIGHBOUR: 'it returns false'. Refute it at one input. -/
def longMixesWrong : ChangeSpec := { name := "longMixes", fn := fun _ => fun
  | [d1, d2, d3] => { results := [.lit (.bool false)], args := [d1, d2, d3] }
  | _ => none }
def LongMixesWrongFalsely : Prop := longMixesRow.holds Try.pinned (OpenSpec.ofChange longMixesWrong)

/-- 'quernlaw19.LongTwins': WHATEVER THE INPUT: true; the input reads as it did. -/
def longTwinsSpec : ChangeSpec := { name := "longTwins", fn := fun _ => fun
  | [d1, d2, d3] => { results := [.lit (.bool true)], args := [d1, d2, d3] }
  | _ => none }
def longTwinsRow : OpenClaim := { program := "ytnkngaicegcejaa", sum := "1314eb6b239b905003eb2459da260d8386cfc7a90be587c7411db368ea3a41b1", func := "quern/quernlaw19.LongTwins", spec := "longTwins", unfollowed := true, recurses := true, apart := false }
def LongTwinsSaid : Prop := longTwinsRow.holds Try.pinned (OpenSpec.ofChange longTwinsSpec)

/-- ITS FALSE NEIGHBOUR: 'it returns false'. Refute it at one input. -/
def longTwinsWrong : ChangeSpec := { name := "longTwins", fn := fun _ => fun
  | [d1, d2, d3] => { results := [.lit (.bool false)], args := [d1, d2, d3] }
  | _ => none }
def LongTwinsWrongFalsely : Prop := longTwinsRow.holds Try.pinned (OpenSpec.ofChange longTwinsWrong)

/-- 'quernlaw20.ArgonAddresses': WHATEVER THE INPUT: true; the input reads as it did. -/
def argonAddressesSpec : ChangeSpec := { name := "argonAddresses", fn := fun _ => fun
  | [d1, d2] => { results := [.lit (.bool true)], args := [d1, d2] }
  | _ => none }
def argonAddressesRow : OpenClaim := { program := "ytnkngaicegcejaa", sum := "1314eb6b239b905003eb2459da260d8386cfc7a90be587c7411db368ea3a41b1", func := "quern/quernlaw20.ArgonAddresses", spec := "argonAddresses", unfollowed := true, recurses := true, apart := false }
def ArgonAddressesSaid : Prop := argonAddressesRow.holds Try.pinned (OpenSpec.ofChange argonAddressesSpec)

/-- ITS FALSE NEIGHBOUR: 'it returns false'. Refute it at one input. -/
def argonAddressesWrong : ChangeSpec := { name := "argonAddresses", fn := fun _ => fun
  | [d1, d2] => { results := [.lit (.bool false)], args := [d1, d2] }
  | _ => none }
def ArgonAddressesWrongFalsely : Prop := argonAddressesRow.holds Try.pinned (OpenSpec.ofChange argonAddressesWrong)

/-- 'quernlaw20.ArgonBlind': WHATEVER THE INPUT: true; the input reads as it did. -/
def argonBlindSpec : ChangeSpec := { name := "argonBlind", fn := fun _ => fun
  | [d1, d2, d3] => { results := [.lit (.bool true)], args := [d1, d2, d3] }
  | _ => none }
def argonBlindRow : OpenClaim := { program := "ytnkngaicegcejaa", sum := "1314eb6b239b905003eb2459da260d8386cfc7a90be587c7411db368ea3a41b1", func := "quern/quernlaw20.ArgonBlind", spec := "argonBlind", unfollowed := true, recurses := true, apart := false }
def ArgonBlindSaid : Prop := argonBlindRow.holds Try.pinned (OpenSpec.ofChange argonBlindSpec)

/-- ITS FALSE NEIGHBOUR: 'it returns false'. Refute it at one input. -/
def argonBlindWrong : ChangeSpec := { name := "argonBlind", fn := fun _ => fun
  | [d1, d2, d3] => { results := [.lit (.bool false)], args := [d1, d2, d3] }
  | _ => none }
def ArgonBlindWrongFalsely : Prop := argonBlindRow.holds Try.pinned (OpenSpec.ofChange argonBlindWrong)

/- THE SECOND FORM. 'bulk': how many values and letters a reading holds, each counted each time it is reached (what is shared counts as often as it is met; a slice's spare places count too). A statement '..UptoSaid' is the law's where the arguments, and the package variables that the reading takes, are together of bulk at most 1048576: NARROWER than '..Said'. Prove '..Said' where nothing that the law and all that it calls make is longer than what came in: it says more and counts as full. Else prove '..UptoSaid'. A law counts once. -/
mutual
def uptoBulk {H : Type} : DataW H → Nat
  | .lit (.string bytes) => bytes.length + 1
  | .lit _ => 1
  | .nil => 1
  | .ptr d => uptoBulk d + 1
  | .slice elems spare => uptoBulkAll elems + uptoBulkAll spare + 1
  | .agg parts => uptoBulkAll parts + 1
  | .iface _ d => uptoBulk d + 1
  | .map entries => uptoBulkEntries entries + 1
  | .held _ => 1
def uptoBulkAll {H : Type} : List (DataW H) → Nat
  | [] => 0
  | d :: r => uptoBulk d + uptoBulkAll r
def uptoBulkEntries {H : Type} : List (Lit × DataW H) → Nat
  | [] => 0
  | x :: r => uptoBulkEntry x + uptoBulkEntries r
def uptoBulkEntry {H : Type} : Lit × DataW H → Nat
  | (.string bytes, d) => bytes.length + uptoBulk d + 1
  | (_, d) => uptoBulk d + 1
 end
def uptoSmall : (H : Type) → List (DataW H) → Bool := fun _ ds => decide (uptoBulkAll ds ≤ 1048576)
def OpenSpec.upto (s : _root_.Go.ChangeSpec) : _root_.Go.OpenSpec := { _root_.Go.OpenSpec.ofChange s with cond := some uptoSmall }

/-- 'quernlaw08.LaneSplits', WHERE WHAT IT READS IS OF BULK AT MOST 1048576: true; the input reads as it did. -/
def laneSplitsUptoRow : OpenClaim := { program := "ytnkngaicegcejaa", sum := "1314eb6b239b905003eb2459da260d8386cfc7a90be587c7411db368ea3a41b1", func := "quern/quernlaw08.LaneSplits", spec := "laneSplits", apart := false, narrowed := true }
def LaneSplitsUptoSaid : Prop := laneSplitsUptoRow.holds Try.pinned (OpenSpec.upto laneSplitsSpec)

/-- 'quernlaw19.LongBlends', WHERE WHAT IT READS IS OF BULK AT MOST 1048576: true; the input reads as it did. -/
def longBlendsUptoRow : OpenClaim := { program := "ytnkngaicegcejaa", sum := "1314eb6b239b905003eb2459da260d8386cfc7a90be587c7411db368ea3a41b1", func := "quern/quernlaw19.LongBlends", spec := "longBlends", apart := false, narrowed := true }
def LongBlendsUptoSaid : Prop := longBlendsUptoRow.holds Try.pinned (OpenSpec.upto longBlendsSpec)

/-- 'quernlaw08.LaneJoins', WHERE WHAT IT READS IS OF BULK AT MOST 1048576: true; the input reads as it did. -/
def laneJoinsUptoRow : OpenClaim := { program := "ytnkngaicegcejaa", sum := "1314eb6b239b905003eb2459da260d8386cfc7a90be587c7411db368ea3a41b1", func := "quern/quernlaw08.LaneJoins", spec := "laneJoins", apart := false, narrowed := true }
def LaneJoinsUptoSaid : Prop := laneJoinsUptoRow.holds Try.pinned (OpenSpec.upto laneJoinsSpec)

/-- 'quernlaw20.ArgonRefers', WHERE WHAT IT READS IS OF BULK AT MOST 1048576: true; the input reads as it did. -/
def argonRefersUptoRow : OpenClaim := { program := "ytnkngaicegcejaa", sum := "1314eb6b239b905003eb2459da260d8386cfc7a90be587c7411db368ea3a41b1", func := "quern/quernlaw20.ArgonRefers", spec := "argonRefers", apart := false, narrowed := true }
def ArgonRefersUptoSaid : Prop := argonRefersUptoRow.holds Try.pinned (OpenSpec.upto argonRefersSpec)

/-- 'quernlaw20.ArgonApart', WHERE WHAT IT READS IS OF BULK AT MOST 1048576: true; the input reads as it did. -/
def argonApartUptoRow : OpenClaim := { program := "ytnkngaicegcejaa", sum := "1314eb6b239b905003eb2459da260d8386cfc7a90be587c7411db368ea3a41b1", func := "quern/quernlaw20.ArgonApart", spec := "argonApart", apart := false, narrowed := true }
def ArgonApartUptoSaid : Prop := argonApartUptoRow.holds Try.pinned (OpenSpec.upto argonApartSpec)

/-- 'quernlaw08.LaneBack', WHERE WHAT IT READS IS OF BULK AT MOST 1048576: true; the input reads as it did. -/
def laneBackUptoRow : OpenClaim := { program := "ytnkngaicegcejaa", sum := "1314eb6b239b905003eb2459da260d8386cfc7a90be587c7411db368ea3a41b1", func := "quern/quernlaw08.LaneBack", spec := "laneBack", apart := false, narrowed := true }
def LaneBackUptoSaid : Prop := laneBackUptoRow.holds Try.pinned (OpenSpec.upto laneBackSpec)

/-- 'quernlaw08.LaneParams', WHERE WHAT IT READS IS OF BULK AT MOST 1048576: true; the input reads as it did. -/
def laneParamsUptoRow : OpenClaim := { program := "ytnkngaicegcejaa", sum := "1314eb6b239b905003eb2459da260d8386cfc7a90be587c7411db368ea3a41b1", func := "quern/quernlaw08.LaneParams", spec := "laneParams", apart := false, narrowed := true }
def LaneParamsUptoSaid : Prop := laneParamsUptoRow.holds Try.pinned (OpenSpec.upto laneParamsSpec)

/-- 'quernlaw19.LongMixes', WHERE WHAT IT READS IS OF BULK AT MOST 1048576: true; the input reads as it did. -/
def longMixesUptoRow : OpenClaim := { program := "ytnkngaicegcejaa", sum := "1314eb6b239b905003eb2459da260d8386cfc7a90be587c7411db368ea3a41b1", func := "quern/quernlaw19.LongMixes", spec := "longMixes", unfollowed := true, recurses := true, apart := false, narrowed := true }
def LongMixesUptoSaid : Prop := longMixesUptoRow.holds Try.pinned (OpenSpec.upto longMixesSpec)

/-- 'quernlaw19.LongTwins', WHERE WHAT IT READS IS OF BULK AT MOST 1048576: true; the input reads as it did. -/
def longTwinsUptoRow : OpenClaim := { program := "ytnkngaicegcejaa", sum := "1314eb6b239b905003eb2459da260d8386cfc7a90be587c7411db368ea3a41b1", func := "quern/quernlaw19.LongTwins", spec := "longTwins", unfollowed := true, recurses := true, apart := false, narrowed := true }
def LongTwinsUptoSaid : Prop := longTwinsUptoRow.holds Try.pinned (OpenSpec.upto longTwinsSpec)

/-- 'quernlaw20.ArgonAddresses', WHERE WHAT IT READS IS OF BULK AT MOST 1048576: true; the input reads as it did. -/
def argonAddressesUptoRow : OpenClaim := { program := "ytnkngaicegcejaa", sum := "1314eb6b239b905003eb2459da260d8386cfc7a90be587c7411db368ea3a41b1", func := "quern/quernlaw20.ArgonAddresses", spec := "argonAddresses", unfollowed := true, recurses := true, apart := false, narrowed := true }
def ArgonAddressesUptoSaid : Prop := argonAddressesUptoRow.holds Try.pinned (OpenSpec.upto argonAddressesSpec)

/-- 'quernlaw20.ArgonBlind', WHERE WHAT IT READS IS OF BULK AT MOST 1048576: true; the input reads as it did. -/
def argonBlindUptoRow : OpenClaim := { program := "ytnkngaicegcejaa", sum := "1314eb6b239b905003eb2459da260d8386cfc7a90be587c7411db368ea3a41b1", func := "quern/quernlaw20.ArgonBlind", spec := "argonBlind", unfollowed := true, recurses := true, apart := false, narrowed := true }
def ArgonBlindUptoSaid : Prop := argonBlindUptoRow.holds Try.pinned (OpenSpec.upto argonBlindSpec)

end Rows
end Go.Proofs.Ytnkngaicegcejaa
