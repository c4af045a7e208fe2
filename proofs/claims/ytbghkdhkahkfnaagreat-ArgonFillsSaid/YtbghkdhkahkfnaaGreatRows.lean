/-
  No cell of these rows narrows 'for every input' (looked for: loops, veiled, ifaces, maps, wideKeys, modest, calm, conditions, laid).
  DERIVED. THE GIVEN ROWS OF THIS SEAT. 2 by the template 'for every input the law returns true; each argument reads behind the call as it read before'; 0 by the template 'total and deterministic' (their statements: YtbghkdhkahkfnaaGreatTotals.lean).
  GIVEN WITH THE SEED: the statements are not yours to turn. If you find one false, say at which input.
  Laid BY PROGRAM, IN A SANDBOX (cutbox-rows.mjs): the forced cells as the released guide's own fill.sh prints them over the translation fa42bb7401baf666… (all of the seat's roots in one cut). By AI agents, Wed Nov 11 2026. No macro, syntax, notation, axiom, sorry.
-/
import Derived.Test.YtbghkdhkahkfnaaGreatChecked
import GoSem.Claim
import GoSem.ClaimJoined
import GoSem.ClaimMapViews
import Derived.JoinedTies
import Derived.KernelRfl
namespace Go.Proofs.YtbghkdhkahkfnaaGreat
/- THE CELL 'sum', in the pinned program and in every row, IS THE sha256 OF THE DUMP (.gsa) THAT YtbghkdhkahkfnaaGreatProg.lean LOADS. Nothing in Lean hashes anything: it is a label: what it is worth is what the hold of that sum in a sandbox is worth. -/
noncomputable def Tryz.pinned : Pinned := { name := "ytbghkdhkahkfnaagreat", sum := "fa42bb7401baf666da189c2ed02a4e94a1d8623f1badf62a12ce47615b4e847c", checked := Tryz.checked }
namespace Rows
def none {H : Type} : Left H := { results := [], args := [] }

/-- 'quernlaw20.ArgonFills': WHATEVER THE INPUT: true; the input reads as it did. -/
def argonFillsSpec : ChangeSpec := { name := "argonFills", fn := fun _ => fun
  | [d1, d2] => { results := [.lit (.bool true)], args := [d1, d2] }
  | _ => none }
def argonFillsRow : OpenClaim := { program := "ytbghkdhkahkfnaagreat", sum := "fa42bb7401baf666da189c2ed02a4e94a1d8623f1badf62a12ce47615b4e847c", func := "quern/quernlaw20.ArgonFills", spec := "argonFills", unfollowed := true, recurses := true, apart := false }
def ArgonFillsSaid : Prop := argonFillsRow.holds Tryz.pinned (OpenSpec.ofChange argonFillsSpec)

/-- ITS FALSE NEIGHBOUR: 'it returns false'. Refute it at one input. -/
def argonFillsWrong : ChangeSpec := { name := "argonFills", fn := fun _ => fun
  | [d1, d2] => { results := [.lit (.bool false)], args := [d1, d2] }
  | _ => none }
def ArgonFillsWrongFalsely : Prop := argonFillsRow.holds Tryz.pinned (OpenSpec.ofChange argonFillsWrong)

/-- 'quernlaw20.ArgonVerifies': WHATEVER THE INPUT: true; the input reads as it did. -/
def argonVerifiesSpec : ChangeSpec := { name := "argonVerifies", fn := fun _ => fun
  | [d] => { results := [.lit (.bool true)], args := [d] }
  | _ => none }
def argonVerifiesRow : OpenClaim := { program := "ytbghkdhkahkfnaagreat", sum := "fa42bb7401baf666da189c2ed02a4e94a1d8623f1badf62a12ce47615b4e847c", func := "quern/quernlaw20.ArgonVerifies", spec := "argonVerifies", unfollowed := true, recurses := true, apart := false }
def ArgonVerifiesSaid : Prop := argonVerifiesRow.holds Tryz.pinned (OpenSpec.ofChange argonVerifiesSpec)

/-- ITS FALSE NEIGHBOUR: 'it returns false'. Refute it at one input. -/
def argonVerifiesWrong : ChangeSpec := { name := "argonVerifies", fn := fun _ => fun
  | [d] => { results := [.lit (.bool false)], args := [d] }
  | _ => none }
def ArgonVerifiesWrongFalsely : Prop := argonVerifiesRow.holds Tryz.pinned (OpenSpec.ofChange argonVerifiesWrong)

/- THE SECOND FORM. 'bulk': how many values and letters a reading holds, each counted each time it is reached (what is shared counts as often as it is met; a slice's spare places count too). A statement '..UptoSaid' is the law's where the arguments, and the package variables that the reading takes, are together of bulk at most 1048576: NARROWER than '..Said'. Prove '..Said' where nothing that the law and all that it calls make is longer than what came in: it says more and counts as full. Else prove '..UptoSaid'. A law counts once. -/
mutual
def uptoBulk {H : Type} : DataW H → Nat
  | .lit (.string bytes) => bytes.length + 1
  | .lit _ => 1
  | .nil => 1
  | .ptr d => uptoBulk d + 1
  | .slice elems spare => uptoBulkAll elems + uptoBulkAll spare + 1
  | .agg parts => uptoBulkAll parts + 1
  | .iface _ d => uptoBulk d + 1
  | .map entries => uptoBulkEntries entries + 1
  | .held _ => 1
def uptoBulkAll {H : Type} : List (DataW H) → Nat
  | [] => 0
  | d :: r => uptoBulk d + uptoBulkAll r
def uptoBulkEntries {H : Type} : List (Lit × DataW H) → Nat
  | [] => 0
  | x :: r => uptoBulkEntry x + uptoBulkEntries r
def uptoBulkEntry {H : Type} : Lit × DataW H → Nat
  | (.string bytes, d) => bytes.length + uptoBulk d + 1
  | (_, d) => uptoBulk d + 1
 end
def uptoSmall : (H : Type) → List (DataW H) → Bool := fun _ ds => decide (uptoBulkAll ds ≤ 1048576)
def OpenSpec.upto (s : _root_.Go.ChangeSpec) : _root_.Go.OpenSpec := { _root_.Go.OpenSpec.ofChange s with cond := some uptoSmall }

/-- 'quernlaw20.ArgonFills', WHERE WHAT IT READS IS OF BULK AT MOST 1048576: true; the input reads as it did. -/
def argonFillsUptoRow : OpenClaim := { program := "ytbghkdhkahkfnaagreat", sum := "fa42bb7401baf666da189c2ed02a4e94a1d8623f1badf62a12ce47615b4e847c", func := "quern/quernlaw20.ArgonFills", spec := "argonFills", unfollowed := true, recurses := true, apart := false, narrowed := true }
def ArgonFillsUptoSaid : Prop := argonFillsUptoRow.holds Tryz.pinned (OpenSpec.upto argonFillsSpec)

/-- 'quernlaw20.ArgonVerifies', WHERE WHAT IT READS IS OF BULK AT MOST 1048576: true; the input reads as it did. -/
def argonVerifiesUptoRow : OpenClaim := { program := "ytbghkdhkahkfnaagreat", sum := "fa42bb7401baf666da189c2ed02a4e94a1d8623f1badf62a12ce47615b4e847c", func := "quern/quernlaw20.ArgonVerifies", spec := "argonVerifies", unfollowed := true, recurses := true, apart := false, narrowed := true }
def ArgonVerifiesUptoSaid : Prop := argonVerifiesUptoRow.holds Tryz.pinned (OpenSpec.upto argonVerifiesSpec)

end Rows
end Go.Proofs.YtbghkdhkahkfnaaGreat
