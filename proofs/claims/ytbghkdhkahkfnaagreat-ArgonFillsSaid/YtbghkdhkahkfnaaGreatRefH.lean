/-
  Hash of the reference, of whatever is asked. Contracts alone; no statement is claimed here.
-/
import Derived.Test.YtbghkdhkahkfnaaGreatRefNB
import Derived.Test.YtbghkdhkahkfnaaGreatHs
namespace Go.Proofs.YtbghkdhkahkfnaaGreat
open Go.RowKit
attribute [local go_sem] pureUpon Ords.of

end Go.Proofs.YtbghkdhkahkfnaaGreat
