/-
  An array of words that came in, as a list. Lemmas alone; no statement is claimed here.
-/
import Derived.Test.YtbghkdhkahkfnaaGreatMx
import Derived.Test.YtbghkdhkahkfnaaGreatFrame
namespace Go.Proofs.YtbghkdhkahkfnaaGreat
open Go.ChangeShapes Go.WideShapes Go.ChangeAt Go.RowKit

def unw : Value → UInt64
  | .int _ n => UInt64.ofNat n.toNat
  | _ => 0
end Go.Proofs.YtbghkdhkahkfnaaGreat
