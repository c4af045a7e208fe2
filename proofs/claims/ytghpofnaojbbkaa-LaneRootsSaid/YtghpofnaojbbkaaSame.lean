/-
  Are bytes the same: the reference's Same. Contracts alone; no statement is claimed here.
-/
import Derived.Test.YtghpofnaojbbkaaCoreA
namespace Go.Proofs.Ytghpofnaojbbkaa
open Go.RowKit

end Go.Proofs.Ytghpofnaojbbkaa
