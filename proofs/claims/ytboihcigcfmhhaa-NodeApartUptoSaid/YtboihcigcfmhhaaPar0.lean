/-
  Parameters of noughts. Lemmas alone; no statement is claimed here.
-/
import Derived.Test.YtboihcigcfmhhaaParC
namespace Go.Proofs.Ytboihcigcfmhhaa
open Go.RowKit

def zeroPar : Pr := ⟨0, 0, 0, 0, 0, 0, 0, 0, 0, Sl.nil, Sl.nil⟩
def zcs : Array Value := #[.int .i64 0, .int .i64 0, .int .i64 0, .int .i64 0, .int .u32 0, .int .u64 0, .int .u32 0, .int .i64 0, .int .i64 0, .slice none 0 0, .slice none 0 0]
theorem Pr.size (p : Pr) : (Try.prog.info? 26).map (·.size) = some p.cs.size := by unfold Pr.cs; kernel_rfl
theorem Pr.ones (p : Pr) : p.cs.all (·.oneCell') = true := by unfold Pr.cs Sl.v; simp [Value.oneCell']
end Go.Proofs.Ytboihcigcfmhhaa
